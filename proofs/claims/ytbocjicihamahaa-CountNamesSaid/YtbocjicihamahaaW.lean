/- A cut of a box, of the given program: what the call does. -/
import Derived.Test.YtbocjicihamahaaV
import Derived.Test.YtbocjicihamahaaX
set_option linter.unusedSimpArgs false
set_option linter.unusedVariables false
namespace Go.Proofs.Ytbocjicihamahaa
open Go.RowKit

abbrev fd12 (q0 q1 q2 q3 : Bx) (a0 a1 a2 a3 : Int) : Array Value := #[.complex .f64 q0.1.1 q0.1.2, .complex .f64 q0.2.1 q0.2.2, .int .i64 a0, .complex .f64 q1.1.1 q1.1.2, .complex .f64 q1.2.1 q1.2.2, .int .i64 a1, .complex .f64 q2.1.1 q2.1.2, .complex .f64 q2.2.1 q2.2.2, .int .i64 a2, .complex .f64 q3.1.1 q3.1.2, .complex .f64 q3.2.1 q3.2.2, .int .i64 a3]
abbrev fdz : Array Value := #[.complex .f64 0 0, .complex .f64 0 0, .int .i64 0, .complex .f64 0 0, .complex .f64 0 0, .int .i64 0, .complex .f64 0 0, .complex .f64 0 0, .int .i64 0, .complex .f64 0 0, .complex .f64 0 0, .int .i64 0]
theorem Kept.toOnly {W w1 : World} {pb co B : Nat} {v' : Value} (h : Kept W pb (.slice (some ⟨co, 0, none⟩) 0 0) w1 v') (hB : B ≤ W.heap.size) (hc : B ≤ co) : Only B pb W w1 :=
  ⟨h.os, h.tape, h.output, h.size, fun k hk hp => h.block k (by omega) hp (by simp [Value.ownBlock]; omega)⟩
theorem Kept.same (w : World) (pb co : Nat) : Kept w pb (.slice (some ⟨co, 0, none⟩) 0 0) w (.slice (some ⟨co, 0, none⟩) 0 0) := ⟨rfl, rfl, rfl, Nat.le_refl _, fun _ _ _ _ => rfl, .inl rfl⟩
theorem surely_cut_ok (l : List Pl) (q0 q1 q2 q3 : Bx) (b off cap cf cw cd co pb : Nat) (hbp : b ≠ pb) (hbo : b ≠ co) (hfp : cf ≠ pb) (hwp : cw ≠ pb) (hwo : cw ≠ co) (hdp : cd ≠ pb) (hdo : cd ≠ co) (hop : co ≠ pb) (d : Nat) (hd : d ≤ 24) (n : Nat) (v0 : Value) (w : World) (m : Nat) (a0 a1 a2 a3 : Int)
    (hn : n ≤ 16384) (hb : b < w.heap.size) (hblk : w.heap[pb]? = some (.cells #[.slice (some ⟨b, off, none⟩) l.length cap, .int .i64 n, v0] 48 (0, 0))) (hrd : reads w b off l)
    (hcf : w.heap[cf]? = some (.cells (fourV q0 q1 q2 q3) 76 (0, 0))) (hcw : w.cell? ⟨cw, 0, none⟩ = some (.pointer (some ⟨pb, 0, none⟩)))
    (hcd : w.cell? ⟨cd, 0, none⟩ = some (.int .i64 d)) (hco : w.heap[co]? = some (.cells fdz 60 (0, 0)))
    (h : cutGo l d [q0, q1, q2, q3] n = some (true, m, [a0, a1, a2, a3])) :
    Calls Try.prog 15 #[.func (.func 41) #[] #[.pointer (some ⟨cf, 0, none⟩), .pointer (some ⟨cw, 0, none⟩), .pointer (some ⟨cd, 0, none⟩), .pointer (some ⟨co, 0, none⟩)]] w fun e w' =>
      e = .returned (.bool true) ∧ ∃ v', w'.heap[pb]? = some (.cells #[.slice (some ⟨b, off, none⟩) l.length cap, .int .i64 m, v'] 48 (0, 0)) ∧
        Kept w pb (.slice (some ⟨co, 0, none⟩) 0 0) w' (.slice (some ⟨co, 0, none⟩) 0 0) ∧ w'.heap[co]? = some (.cells (fd12 q0 q1 q2 q3 a0 a1 a2 a3) 60 (0, 0)) := by
  have lco := lt_of_block hco
  have lpb := lt_of_block hblk
  have lcf := lt_of_block hcf
  have lcw := World.block_lt_of_cell? _ _ hcw
  have lcd := World.block_lt_of_cell? _ _ hcd
  haveI : Has w co := ⟨lco⟩
  haveI : Has w pb := ⟨lpb⟩
  haveI : Has w cf := ⟨lcf⟩
  haveI : Has w cw := ⟨lcw⟩
  haveI : Has w cd := ⟨lcd⟩
  haveI : Has w b := ⟨hb⟩
  refine (surely_any 41 _ w true (fun w' => ∃ v', w'.heap[pb]? = some (.cells #[.slice (some ⟨b, off, none⟩) l.length cap, .int .i64 m, v'] 48 (0, 0)) ∧ Kept (w.alloc (.cells #[.bool false] 4)) pb (.slice (some ⟨co, 0, none⟩) 0 0) w' (.slice (some ⟨co, 0, none⟩) 0 0) ∧ w'.heap[co]? = some (.cells (fd12 q0 q1 q2 q3 a0 a1 a2 a3) 60 (0, 0))) (fun _ => rfl)
    ((cutclo_ok l q0 q1 q2 q3 b off cap cf cw cd co pb hbp hbo hfp hwp hwo hdp hdo hop d hd n v0 _ (true, m, [a0, a1, a2, a3]) hn Has.lt (by simp only [block_alloc']; exact hblk) (reads_of (fun o => by simp [go_sem]) hrd) (by simp only [block_alloc']; exact hcf) (by simp [go_sem, hcw]) (by simp [go_sem, hcd]) (by simp only [block_alloc']; exact hco) h rfl).mono ?_)).mono ?_
  · rintro e w' ⟨he, v', hb1, hK, ho⟩
    refine ⟨he, ?_, v', hb1, hK, ho rfl⟩
    exact (hK.block w.heap.size (by simp) (by omega) (by simp [Value.ownBlock]; omega)).trans (block_at _ _ _)
  · rintro e w'' ⟨rfl, w1, ⟨v', hb1, hK, ho⟩, hlt, hB⟩
    refine ⟨rfl, v', (hB.block pb lpb).trans hb1, ?_, (hB.block co lco).trans ho⟩
    exact ⟨hB.os.trans hK.os, hB.tape.trans hK.tape, hB.output.trans hK.output, Nat.le_trans (Nat.le_of_lt hlt) hB.size, fun k hk hp hv => ((hB.block k hk).trans (hK.block k (by simp; omega) hp hv)).trans (Below.heap_alloc _ _ _ hk), .inl rfl⟩
theorem surely_cut_no (l : List Pl) (q0 q1 q2 q3 : Bx) (b off cap cf cw cd co pb : Nat) (hbp : b ≠ pb) (hfp : cf ≠ pb) (hwp : cw ≠ pb) (hdp : cd ≠ pb) (hop : co ≠ pb) (d : Nat) (hd : d ≤ 24) (n : Nat) (v0 : Value) (w : World) (a : Bool × Nat × List Int)
    (hn : n ≤ 16384) (hb : b < w.heap.size) (hblk : w.heap[pb]? = some (.cells #[.slice (some ⟨b, off, none⟩) l.length cap, .int .i64 n, v0] 48 (0, 0))) (hrd : reads w b off l)
    (hcf : w.heap[cf]? = some (.cells (fourV q0 q1 q2 q3) 76 (0, 0))) (hcw : w.cell? ⟨cw, 0, none⟩ = some (.pointer (some ⟨pb, 0, none⟩)))
    (hcd : w.cell? ⟨cd, 0, none⟩ = some (.int .i64 d)) (h : overGo l d (borderS q0) 4 0 n [] = some a) (ha1 : a.1 = false) :
    Calls Try.prog 15 #[.func (.func 41) #[] #[.pointer (some ⟨cf, 0, none⟩), .pointer (some ⟨cw, 0, none⟩), .pointer (some ⟨cd, 0, none⟩), .pointer (some ⟨co, 0, none⟩)]] w fun e w' =>
      e = .returned (.bool false) ∧ (∃ v', w'.heap[pb]? = some (.cells #[.slice (some ⟨b, off, none⟩) l.length cap, .int .i64 a.2.1, v'] 48 (0, 0))) ∧ Only w.heap.size pb w w' := by
  have lpb := lt_of_block hblk
  have lcf := lt_of_block hcf
  have lcw := World.block_lt_of_cell? _ _ hcw
  have lcd := World.block_lt_of_cell? _ _ hcd
  haveI : Has w pb := ⟨lpb⟩
  haveI : Has w cf := ⟨lcf⟩
  haveI : Has w cw := ⟨lcw⟩
  haveI : Has w cd := ⟨lcd⟩
  haveI : Has w b := ⟨hb⟩
  refine (surely_any 41 _ w false (fun w' => (∃ v', w'.heap[pb]? = some (.cells #[.slice (some ⟨b, off, none⟩) l.length cap, .int .i64 a.2.1, v'] 48 (0, 0))) ∧ Only (w.alloc (.cells #[.bool false] 4)).heap.size pb (w.alloc (.cells #[.bool false] 4)) w') (fun _ => rfl)
    ((cutclo_no l q0 q1 q2 q3 b off cap cf cw cd co pb hbp hfp hwp hdp hop d hd n v0 _ a hn Has.lt (by simp only [block_alloc']; exact hblk) (reads_of (fun o => by simp [go_sem]) hrd) (by simp only [block_alloc']; exact hcf) (by simp [go_sem, hcw]) (by simp [go_sem, hcd]) h ha1).mono ?_)).mono ?_
  · rintro e w' ⟨he, hv, hK⟩
    refine ⟨he, ?_, hv, hK⟩
    exact (hK.block w.heap.size (by simp) (by omega)).trans (block_at _ _ _)
  · rintro e w'' ⟨rfl, w1, ⟨⟨v', hb1⟩, hK⟩, hlt, hB⟩
    refine ⟨rfl, ⟨v', (hB.block pb lpb).trans hb1⟩, ?_⟩
    exact ⟨hB.os.trans hK.os, hB.tape.trans hK.tape, hB.output.trans hK.output, Nat.le_trans (Nat.le_of_lt hlt) hB.size, fun k hk hp => ((hB.block k hk).trans (hK.block k (by simp; omega) hp)).trans (Below.heap_alloc _ _ _ hk)⟩

theorem tidx0 (w : World) : (Instr.index 71 (.agg #[.float .f64 4602678819172646912, .float .f64 4601552919265804288, .float .f64 4603523244102778880, .float .f64 4602115869219225600]) (.int .i64 0)).run Try.prog w = .ok (.float .f64 4602678819172646912) w := by kernel_rfl
theorem tidx1 (w : World) : (Instr.index 71 (.agg #[.float .f64 4602678819172646912, .float .f64 4601552919265804288, .float .f64 4603523244102778880, .float .f64 4602115869219225600]) (.int .i64 1)).run Try.prog w = .ok (.float .f64 4601552919265804288) w := by kernel_rfl
theorem set12 (q0 q1 q2 q3 : Bx) (a0 a1 a2 a3 : Int) : ((((((((((((fdz.setIfInBounds 0 (.complex .f64 q0.1.1 q0.1.2)).setIfInBounds 1 (.complex .f64 q0.2.1 q0.2.2)).setIfInBounds 2 (.int .i64 a0)).setIfInBounds 3 (.complex .f64 q1.1.1 q1.1.2)).setIfInBounds 4 (.complex .f64 q1.2.1 q1.2.2)).setIfInBounds 5 (.int .i64 a1)).setIfInBounds 6 (.complex .f64 q2.1.1 q2.1.2)).setIfInBounds 7 (.complex .f64 q2.2.1 q2.2.2)).setIfInBounds 8 (.int .i64 a2)).setIfInBounds 9 (.complex .f64 q3.1.1 q3.1.2)).setIfInBounds 10 (.complex .f64 q3.2.1 q3.2.2)).setIfInBounds 11 (.int .i64 a3)) = fd12 q0 q1 q2 q3 a0 a1 a2 a3 := by kernel_rfl
set_option maxRecDepth 100000 in
set_option maxHeartbeats 8000000 in
theorem cut_one (l : List Pl) (x q0 q1 q2 q3 : Bx) (b off cap pb : Nat) (hbp : b ≠ pb) (d : Nat) (hd : d ≤ 24) (n : Nat) (v0 : Value) (w : World) (m : Nat) (a0 a1 a2 a3 : Int)
    (hn : n ≤ 16384) (hb : b < w.heap.size) (hblk : w.heap[pb]? = some (.cells #[.slice (some ⟨b, off, none⟩) l.length cap, .int .i64 n, v0] 48 (0, 0))) (hrd : reads w b off l)
    (hq : quartersS x 4602678819172646912 = some [q0, q1, q2, q3]) (h : cutGo l d [q0, q1, q2, q3] n = some (true, m, [a0, a1, a2, a3])) :
    Calls Try.prog 24 #[.pointer (some ⟨pb, 0, none⟩), .agg #[.complex .f64 x.1.1 x.1.2, .complex .f64 x.2.1 x.2.2], .int .i64 d] w fun e w' =>
      e = .returned (.agg (fd12 q0 q1 q2 q3 a0 a1 a2 a3)) ∧ (∃ v', w'.heap[pb]? = some (.cells #[.slice (some ⟨b, off, none⟩) l.length cap, .int .i64 m, v'] 48 (0, 0))) ∧ Only w.heap.size pb w w' := by
  have hmf := run_makeFunc
  have lpb := lt_of_block hblk
  haveI : Has w pb := ⟨lpb⟩
  haveI : Has w b := ⟨hb⟩
  have BLK := hid hblk
  have RD := hid hrd
  have H := hid h
  have HQ := hid hq
  have i0 := tidx0
  have i1 := tidx1
  clear hblk hrd h hq
  go_enter Try.func24, Try.ntmps24
  go_wp2_with fail
  go_loopw [13] (fun i wr => i = .int .i64 0 ∧ wr = (((w.alloc (.cells #[.pointer (some ⟨pb, 0, none⟩)] 46)).alloc (.cells #[.complex .f64 x.1.1 x.1.2, .complex .f64 x.2.1 x.2.2] 29)).alloc (.cells #[.int .i64 d] 3)).alloc (.cells fdz 60)) (fun _ _ => 0)
  case atStart => exact ⟨rfl, rfl⟩
  case round =>
    obtain ⟨rfl, rfl⟩ := hrel
    go_wp2_with fail
    refine (quarters_any x _ q0 q1 q2 q3 _ HQ.out).mono ?_
    rintro e wq ⟨rfl, hb⟩
    obtain ⟨os, dd, rfl⟩ := plus_of_below hb; clear hb
    go_wp2_with fail
    refine (surely_cut_ok l q0 q1 q2 q3 b off cap (w.heap.size + 1 + 1 + 1 + 1 + os.size) w.heap.size (w.heap.size + 1 + 1) (w.heap.size + 1 + 1 + 1 + 1 + os.size + 1) pb hbp ?_ ?_ ?_ ?_ ?_ ?_ ?_ d hd n v0 _ m a0 a1 a2 a3 hn ?_ ?_ ?_ ?_ ?_ ?_ ?_ H.out).mono ?_
    · omega
    · omega
    · omega
    · omega
    · omega
    · omega
    · omega
    · simp; omega
    · simp only [block_alloc', block_plus', block_drew]; exact BLK.out
    · exact reads_of (fun o => by simp [go_sem]) RD.out
    · simp only [block_alloc', block_plus', block_drew, block_at]
    · simp [go_sem]
    · simp [go_sem]
    · simp only [block_alloc', block_plus', block_drew, block_at]
    rintro e wq ⟨rfl, v', hbl', hK, hco⟩
    have hres : wq.heap[w.heap.size + 1 + 1 + 1]? = some (.cells fdz 60 (0, 0)) := (hK.block _ (by simp; omega) (by omega) (by simp [Value.ownBlock]; omega)).trans (by simp only [block_alloc', block_plus', block_drew, block_at])
    have c0 := cell_of_block hco 0
    have r0 := cell_of_block hres 0
    have f0 := free_of_block hres 0
    have c1 := cell_of_block hco 1
    have r1 := cell_of_block hres 1
    have f1 := free_of_block hres 1
    have c2 := cell_of_block hco 2
    have r2 := cell_of_block hres 2
    have f2 := free_of_block hres 2
    have c3 := cell_of_block hco 3
    have r3 := cell_of_block hres 3
    have f3 := free_of_block hres 3
    have c4 := cell_of_block hco 4
    have r4 := cell_of_block hres 4
    have f4 := free_of_block hres 4
    have c5 := cell_of_block hco 5
    have r5 := cell_of_block hres 5
    have f5 := free_of_block hres 5
    have c6 := cell_of_block hco 6
    have r6 := cell_of_block hres 6
    have f6 := free_of_block hres 6
    have c7 := cell_of_block hco 7
    have r7 := cell_of_block hres 7
    have f7 := free_of_block hres 7
    have c8 := cell_of_block hco 8
    have r8 := cell_of_block hres 8
    have f8 := free_of_block hres 8
    have c9 := cell_of_block hco 9
    have r9 := cell_of_block hres 9
    have f9 := free_of_block hres 9
    have c10 := cell_of_block hco 10
    have r10 := cell_of_block hres 10
    have f10 := free_of_block hres 10
    have c11 := cell_of_block hco 11
    have r11 := cell_of_block hres 11
    have f11 := free_of_block hres 11
    simp at c0 r0 c1 r1 c2 r2 c3 r3 c4 r4 c5 r5 c6 r6 c7 r7 c8 r8 c9 r9 c10 r10 c11 r11
    haveI : Has wq (w.heap.size + 1 + 1 + 1) := ⟨lt_of_block hres⟩
    haveI : Has wq (w.heap.size + 1 + 1 + 1 + 1 + os.size + 1) := ⟨lt_of_block hco⟩
    have HRES := hid hres
    have HCO := hid hco
    have HBL := hid hbl'
    have HK := hid hK
    clear hres hco hbl' hK
    go_wp2_with fail
    have hne : pb ≠ w.heap.size + 1 + 1 + 1 := by omega
    have z := (set_of_block (set_of_block (set_of_block (set_of_block (set_of_block (set_of_block (set_of_block (set_of_block (set_of_block (set_of_block (set_of_block (set_of_block HRES.out 0 (.complex .f64 q0.1.1 q0.1.2)) 1 (.complex .f64 q0.2.1 q0.2.2)) 2 (.int .i64 a0)) 3 (.complex .f64 q1.1.1 q1.1.2)) 4 (.complex .f64 q1.2.1 q1.2.2)) 5 (.int .i64 a1)) 6 (.complex .f64 q2.1.1 q2.1.2)) 7 (.complex .f64 q2.2.1 q2.2.2)) 8 (.int .i64 a2)) 9 (.complex .f64 q3.1.1 q3.1.2)) 10 (.complex .f64 q3.2.1 q3.2.2)) 11 (.int .i64 a3))
    have zb := ((block_ne _ (w.heap.size + 1 + 1 + 1) 11 pb (.int .i64 a3) hne).trans ((block_ne _ (w.heap.size + 1 + 1 + 1) 10 pb (.complex .f64 q3.2.1 q3.2.2) hne).trans ((block_ne _ (w.heap.size + 1 + 1 + 1) 9 pb (.complex .f64 q3.1.1 q3.1.2) hne).trans ((block_ne _ (w.heap.size + 1 + 1 + 1) 8 pb (.int .i64 a2) hne).trans ((block_ne _ (w.heap.size + 1 + 1 + 1) 7 pb (.complex .f64 q2.2.1 q2.2.2) hne).trans ((block_ne _ (w.heap.size + 1 + 1 + 1) 6 pb (.complex .f64 q2.1.1 q2.1.2) hne).trans ((block_ne _ (w.heap.size + 1 + 1 + 1) 5 pb (.int .i64 a1) hne).trans ((block_ne _ (w.heap.size + 1 + 1 + 1) 4 pb (.complex .f64 q1.2.1 q1.2.2) hne).trans ((block_ne _ (w.heap.size + 1 + 1 + 1) 3 pb (.complex .f64 q1.1.1 q1.1.2) hne).trans ((block_ne _ (w.heap.size + 1 + 1 + 1) 2 pb (.int .i64 a0) hne).trans ((block_ne _ (w.heap.size + 1 + 1 + 1) 1 pb (.complex .f64 q0.2.1 q0.2.2) hne).trans ((block_ne _ (w.heap.size + 1 + 1 + 1) 0 pb (.complex .f64 q0.1.1 q0.1.2) hne).trans HBL.out))))))))))))
    have zo := (Only.set (Only.set (Only.set (Only.set (Only.set (Only.set (Only.set (Only.set (Only.set (Only.set (Only.set (Only.set (Only.refl w.heap.size pb wq) (q := ⟨w.heap.size + 1 + 1 + 1, 0, none⟩) (by show w.heap.size ≤ w.heap.size + 1 + 1 + 1; omega) (.complex .f64 q0.1.1 q0.1.2)) (q := ⟨w.heap.size + 1 + 1 + 1, 1, none⟩) (by show w.heap.size ≤ w.heap.size + 1 + 1 + 1; omega) (.complex .f64 q0.2.1 q0.2.2)) (q := ⟨w.heap.size + 1 + 1 + 1, 2, none⟩) (by show w.heap.size ≤ w.heap.size + 1 + 1 + 1; omega) (.int .i64 a0)) (q := ⟨w.heap.size + 1 + 1 + 1, 3, none⟩) (by show w.heap.size ≤ w.heap.size + 1 + 1 + 1; omega) (.complex .f64 q1.1.1 q1.1.2)) (q := ⟨w.heap.size + 1 + 1 + 1, 4, none⟩) (by show w.heap.size ≤ w.heap.size + 1 + 1 + 1; omega) (.complex .f64 q1.2.1 q1.2.2)) (q := ⟨w.heap.size + 1 + 1 + 1, 5, none⟩) (by show w.heap.size ≤ w.heap.size + 1 + 1 + 1; omega) (.int .i64 a1)) (q := ⟨w.heap.size + 1 + 1 + 1, 6, none⟩) (by show w.heap.size ≤ w.heap.size + 1 + 1 + 1; omega) (.complex .f64 q2.1.1 q2.1.2)) (q := ⟨w.heap.size + 1 + 1 + 1, 7, none⟩) (by show w.heap.size ≤ w.heap.size + 1 + 1 + 1; omega) (.complex .f64 q2.2.1 q2.2.2)) (q := ⟨w.heap.size + 1 + 1 + 1, 8, none⟩) (by show w.heap.size ≤ w.heap.size + 1 + 1 + 1; omega) (.int .i64 a2)) (q := ⟨w.heap.size + 1 + 1 + 1, 9, none⟩) (by show w.heap.size ≤ w.heap.size + 1 + 1 + 1; omega) (.complex .f64 q3.1.1 q3.1.2)) (q := ⟨w.heap.size + 1 + 1 + 1, 10, none⟩) (by show w.heap.size ≤ w.heap.size + 1 + 1 + 1; omega) (.complex .f64 q3.2.1 q3.2.2)) (q := ⟨w.heap.size + 1 + 1 + 1, 11, none⟩) (by show w.heap.size ≤ w.heap.size + 1 + 1 + 1; omega) (.int .i64 a3))
    generalize ((((((((((((wq.setCell ⟨w.heap.size + 1 + 1 + 1, 0, none⟩ (.complex .f64 q0.1.1 q0.1.2)).setCell ⟨w.heap.size + 1 + 1 + 1, 1, none⟩ (.complex .f64 q0.2.1 q0.2.2)).setCell ⟨w.heap.size + 1 + 1 + 1, 2, none⟩ (.int .i64 a0)).setCell ⟨w.heap.size + 1 + 1 + 1, 3, none⟩ (.complex .f64 q1.1.1 q1.1.2)).setCell ⟨w.heap.size + 1 + 1 + 1, 4, none⟩ (.complex .f64 q1.2.1 q1.2.2)).setCell ⟨w.heap.size + 1 + 1 + 1, 5, none⟩ (.int .i64 a1)).setCell ⟨w.heap.size + 1 + 1 + 1, 6, none⟩ (.complex .f64 q2.1.1 q2.1.2)).setCell ⟨w.heap.size + 1 + 1 + 1, 7, none⟩ (.complex .f64 q2.2.1 q2.2.2)).setCell ⟨w.heap.size + 1 + 1 + 1, 8, none⟩ (.int .i64 a2)).setCell ⟨w.heap.size + 1 + 1 + 1, 9, none⟩ (.complex .f64 q3.1.1 q3.1.2)).setCell ⟨w.heap.size + 1 + 1 + 1, 10, none⟩ (.complex .f64 q3.2.1 q3.2.2)).setCell ⟨w.heap.size + 1 + 1 + 1, 11, none⟩ (.int .i64 a3)) = wf at z zb zo ⊢
    have z' : wf.heap[w.heap.size + 1 + 1 + 1]? = some (.cells (fd12 q0 q1 q2 q3 a0 a1 a2 a3) 60 (0, 0)) := by rw [← set12]; exact z
    clear z
    clear c0 c1 c2 c3 c4 c5 c6 c7 c8 c9 c10 c11
    have c0 := cell_of_block z' 0
    have c1 := cell_of_block z' 1
    have c2 := cell_of_block z' 2
    have c3 := cell_of_block z' 3
    have c4 := cell_of_block z' 4
    have c5 := cell_of_block z' 5
    have c6 := cell_of_block z' 6
    have c7 := cell_of_block z' 7
    have c8 := cell_of_block z' 8
    have c9 := cell_of_block z' 9
    have c10 := cell_of_block z' 10
    have c11 := cell_of_block z' 11
    simp at c0 c1 c2 c3 c4 c5 c6 c7 c8 c9 c10 c11
    have h1 := HK.out.toOnly (B := w.heap.size) (by simp; omega) (by omega)
    refine bodyPost_ret (v := .agg (fd12 q0 q1 q2 q3 a0 a1 a2 a3)) ?_ rfl ⟨rfl, ⟨v', zb⟩, ?_⟩
    · simp [results, Try.results24, go_sem, c0, c1, c2, c3, c4, c5, c6, c7, c8, c9, c10, c11]
    · refine Only.trans (b := wq) (Only.trans (a := w) ?_ h1) zo
      (repeat' (first | exact Only.refl _ _ _ | (refine Only.alloc ?_ ?_ _) | (refine Only.plus ?_ ?_ _ _) | (refine Only.drew ?_) | (refine Only.put ?_ _ _) | (refine Only.set ?_ ?_ _) | assumption | omega | (simp; done) | (simp; omega)))


set_option maxRecDepth 100000 in
set_option maxHeartbeats 8000000 in
theorem cut_two (l : List Pl) (x p0 p1 p2 p3 q0 q1 q2 q3 : Bx) (b off cap pb : Nat) (hbp : b ≠ pb) (d : Nat) (hd : d ≤ 24) (n : Nat) (v0 : Value) (w : World) (a : Bool × Nat × List Int) (m : Nat) (a0 a1 a2 a3 : Int)
    (hn : n ≤ 16384) (hb : b < w.heap.size) (hblk : w.heap[pb]? = some (.cells #[.slice (some ⟨b, off, none⟩) l.length cap, .int .i64 n, v0] 48 (0, 0))) (hrd : reads w b off l)
    (hp : quartersS x 4602678819172646912 = some [p0, p1, p2, p3]) (ha : overGo l d (borderS p0) 4 0 n [] = some a) (ha1 : a.1 = false)
    (hq : quartersS x 4601552919265804288 = some [q0, q1, q2, q3]) (h : cutGo l d [q0, q1, q2, q3] a.2.1 = some (true, m, [a0, a1, a2, a3])) :
    Calls Try.prog 24 #[.pointer (some ⟨pb, 0, none⟩), .agg #[.complex .f64 x.1.1 x.1.2, .complex .f64 x.2.1 x.2.2], .int .i64 d] w fun e w' =>
      e = .returned (.agg (fd12 q0 q1 q2 q3 a0 a1 a2 a3)) ∧ (∃ v', w'.heap[pb]? = some (.cells #[.slice (some ⟨b, off, none⟩) l.length cap, .int .i64 m, v'] 48 (0, 0))) ∧ Only w.heap.size pb w w' := by
  have hmf := run_makeFunc
  have lpb := lt_of_block hblk
  haveI : Has w pb := ⟨lpb⟩
  haveI : Has w b := ⟨hb⟩
  have BLK := hid hblk
  have RD := hid hrd
  have H := hid h
  have HQ := hid hq
  have HP := hid hp
  have HA := hid ha
  have hm := (overGo_bd l d _ _ _ _ _ _ hn (Nat.zero_le _) ha).1
  have i0 := tidx0
  have i1 := tidx1
  clear hblk hrd h hq hp ha
  go_enter Try.func24, Try.ntmps24
  go_wp2_with fail
  go_loopw [13] (fun i wr => ∃ kk : Int, i = .int .i64 kk ∧ Only (w.heap.size + 1 + 1 + 1 + 1) pb ((((w.alloc (.cells #[.pointer (some ⟨pb, 0, none⟩)] 46)).alloc (.cells #[.complex .f64 x.1.1 x.1.2, .complex .f64 x.2.1 x.2.2] 29)).alloc (.cells #[.int .i64 d] 3)).alloc (.cells fdz 60)) wr ∧
      ((kk = 0 ∧ wr.heap[pb]? = some (.cells #[.slice (some ⟨b, off, none⟩) l.length cap, .int .i64 n, v0] 48 (0, 0))) ∨ (kk = 1 ∧ ∃ v', wr.heap[pb]? = some (.cells #[.slice (some ⟨b, off, none⟩) l.length cap, .int .i64 a.2.1, v'] 48 (0, 0))))) (fun i _ => 2 - (intOf i).toNat)
  case atStart => exact ⟨0, rfl, Only.refl _ _ _, .inl ⟨rfl, by simp only [block_alloc']; exact BLK.out⟩⟩
  case round =>
    obtain ⟨kk, rfl, hO, hway⟩ := hrel
    have hsz := hO.size
    simp at hsz
    have e0 : wr.cell? ⟨w.heap.size, 0, none⟩ = some (.pointer (some ⟨pb, 0, none⟩)) := (hO.cell (q := ⟨w.heap.size, 0, none⟩) (by first | (simp; done) | (simp; omega)) (by first | (simp; done) | (simp; omega))).trans (by simp [go_sem])
    have e1 : wr.cell? ⟨w.heap.size + 1, 0, none⟩ = some (.complex .f64 x.1.1 x.1.2) := (hO.cell (q := ⟨w.heap.size + 1, 0, none⟩) (by first | (simp; done) | (simp; omega)) (by first | (simp; done) | (simp; omega))).trans (by simp [go_sem])
    have e2 : wr.cell? ⟨w.heap.size + 1, 1, none⟩ = some (.complex .f64 x.2.1 x.2.2) := (hO.cell (q := ⟨w.heap.size + 1, 1, none⟩) (by first | (simp; done) | (simp; omega)) (by first | (simp; done) | (simp; omega))).trans (by simp [go_sem])
    have e3 : wr.cell? ⟨w.heap.size + 1 + 1, 0, none⟩ = some (.int .i64 d) := (hO.cell (q := ⟨w.heap.size + 1 + 1, 0, none⟩) (by first | (simp; done) | (simp; omega)) (by first | (simp; done) | (simp; omega))).trans (by simp [go_sem])
    have e4 : wr.heap[w.heap.size + 1 + 1 + 1]? = some (.cells fdz 60 (0, 0)) := (hO.block _ (by omega) (by omega)).trans (block_at _ _ _)
    have RDR := hid (reads_of (fun o => hO.cell (q := ⟨b, o, none⟩) (by simp; omega) (by simpa using hbp)) (reads_of (W := ((((w.alloc (.cells #[.pointer (some ⟨pb, 0, none⟩)] 46)).alloc (.cells #[.complex .f64 x.1.1 x.1.2, .complex .f64 x.2.1 x.2.2] 29)).alloc (.cells #[.int .i64 d] 3)).alloc (.cells fdz 60))) (fun o => by simp [go_sem]) RD.out))
    haveI : Has wr pb := ⟨by omega⟩
    haveI : Has wr b := ⟨by omega⟩
    haveI : Has wr w.heap.size := ⟨by omega⟩
    haveI : Has wr (w.heap.size + 1) := ⟨by omega⟩
    haveI : Has wr (w.heap.size + 1 + 1) := ⟨by omega⟩
    haveI : Has wr (w.heap.size + 1 + 1 + 1) := ⟨by omega⟩
    have HO := hid hO
    have E4 := hid e4
    clear hO e4
    rcases hway with ⟨rfl, hbk⟩ | ⟨rfl, v1, hbk⟩
    · have BKR := hid hbk
      clear hbk
      go_wp2_with fail
      refine (quarters_any x _ p0 p1 p2 p3 _ HP.out).mono ?_
      rintro e wq ⟨rfl, hb⟩
      obtain ⟨os, dd, rfl⟩ := plus_of_below hb; clear hb
      go_wp2_with fail
      refine (surely_cut_no l p0 p1 p2 p3 b off cap (wr.heap.size + os.size) w.heap.size (w.heap.size + 1 + 1) (wr.heap.size + os.size + 1) pb hbp ?_ ?_ ?_ ?_ d hd n v0 _ a hn ?_ ?_ ?_ ?_ ?_ ?_ HA.out ha1).mono ?_
      · omega
      · omega
      · omega
      · omega
      · simp; omega
      · simp only [block_alloc', block_plus', block_drew]; exact BKR.out
      · exact reads_of (fun o => by simp [go_sem]) RDR.out
      · simp only [block_alloc', block_plus', block_drew, block_at]
      · simp [go_sem, e0]
      · simp [go_sem, e3]
      rintro e wq ⟨rfl, ⟨v', hbl'⟩, hO2⟩
      have HBL := hid hbl'
      have HO2 := hid hO2
      clear hbl' hO2
      go_wp2_with fail
      go_roundw
      case rel =>
        refine ⟨1, by rfl, ?_, .inr ⟨rfl, v', HBL.out⟩⟩
        refine HO.out.trans (Only.trans ?_ (HO2.out.mono (by simp; omega)))
        (repeat' (first | exact Only.refl _ _ _ | (refine Only.alloc ?_ ?_ _) | (refine Only.plus ?_ ?_ _ _) | (refine Only.drew ?_) | (refine Only.put ?_ _ _) | (refine Only.set ?_ ?_ _) | assumption | omega | (simp; done) | (simp; omega)))
      case measure => simp [intOf]
    · have BKR := hid hbk
      clear hbk
      go_wp2_with fail
      refine (quarters_any x _ q0 q1 q2 q3 _ HQ.out).mono ?_
      rintro e wq ⟨rfl, hb⟩
      obtain ⟨os, dd, rfl⟩ := plus_of_below hb; clear hb
      go_wp2_with fail
      refine (surely_cut_ok l q0 q1 q2 q3 b off cap (wr.heap.size + os.size) w.heap.size (w.heap.size + 1 + 1) (wr.heap.size + os.size + 1) pb hbp ?_ ?_ ?_ ?_ ?_ ?_ ?_ d hd a.2.1 v1 _ m a0 a1 a2 a3 hm ?_ ?_ ?_ ?_ ?_ ?_ ?_ H.out).mono ?_
      · omega
      · omega
      · omega
      · omega
      · omega
      · omega
      · omega
      · simp; omega
      · simp only [block_alloc', block_plus', block_drew]; exact BKR.out
      · exact reads_of (fun o => by simp [go_sem]) RDR.out
      · simp only [block_alloc', block_plus', block_drew, block_at]
      · simp [go_sem, e0]
      · simp [go_sem, e3]
      · simp only [block_alloc', block_plus', block_drew, block_at]
      rintro e wq ⟨rfl, v', hbl', hK, hco⟩
      have hres : wq.heap[w.heap.size + 1 + 1 + 1]? = some (.cells fdz 60 (0, 0)) := (hK.block _ (by simp; omega) (by omega) (by simp [Value.ownBlock]; omega)).trans (by simp only [block_alloc', block_plus', block_drew]; exact E4.out)
      have c0 := cell_of_block hco 0
      have r0 := cell_of_block hres 0
      have f0 := free_of_block hres 0
      have c1 := cell_of_block hco 1
      have r1 := cell_of_block hres 1
      have f1 := free_of_block hres 1
      have c2 := cell_of_block hco 2
      have r2 := cell_of_block hres 2
      have f2 := free_of_block hres 2
      have c3 := cell_of_block hco 3
      have r3 := cell_of_block hres 3
      have f3 := free_of_block hres 3
      have c4 := cell_of_block hco 4
      have r4 := cell_of_block hres 4
      have f4 := free_of_block hres 4
      have c5 := cell_of_block hco 5
      have r5 := cell_of_block hres 5
      have f5 := free_of_block hres 5
      have c6 := cell_of_block hco 6
      have r6 := cell_of_block hres 6
      have f6 := free_of_block hres 6
      have c7 := cell_of_block hco 7
      have r7 := cell_of_block hres 7
      have f7 := free_of_block hres 7
      have c8 := cell_of_block hco 8
      have r8 := cell_of_block hres 8
      have f8 := free_of_block hres 8
      have c9 := cell_of_block hco 9
      have r9 := cell_of_block hres 9
      have f9 := free_of_block hres 9
      have c10 := cell_of_block hco 10
      have r10 := cell_of_block hres 10
      have f10 := free_of_block hres 10
      have c11 := cell_of_block hco 11
      have r11 := cell_of_block hres 11
      have f11 := free_of_block hres 11
      simp at c0 r0 c1 r1 c2 r2 c3 r3 c4 r4 c5 r5 c6 r6 c7 r7 c8 r8 c9 r9 c10 r10 c11 r11
      haveI : Has wq (w.heap.size + 1 + 1 + 1) := ⟨lt_of_block hres⟩
      haveI : Has wq (wr.heap.size + os.size + 1) := ⟨lt_of_block hco⟩
      have HRES := hid hres
      have HCO := hid hco
      have HBL := hid hbl'
      have HK := hid hK
      clear hres hco hbl' hK
      go_wp2_with fail
      have hne : pb ≠ w.heap.size + 1 + 1 + 1 := by omega
      have z := (set_of_block (set_of_block (set_of_block (set_of_block (set_of_block (set_of_block (set_of_block (set_of_block (set_of_block (set_of_block (set_of_block (set_of_block HRES.out 0 (.complex .f64 q0.1.1 q0.1.2)) 1 (.complex .f64 q0.2.1 q0.2.2)) 2 (.int .i64 a0)) 3 (.complex .f64 q1.1.1 q1.1.2)) 4 (.complex .f64 q1.2.1 q1.2.2)) 5 (.int .i64 a1)) 6 (.complex .f64 q2.1.1 q2.1.2)) 7 (.complex .f64 q2.2.1 q2.2.2)) 8 (.int .i64 a2)) 9 (.complex .f64 q3.1.1 q3.1.2)) 10 (.complex .f64 q3.2.1 q3.2.2)) 11 (.int .i64 a3))
      have zb := ((block_ne _ (w.heap.size + 1 + 1 + 1) 11 pb (.int .i64 a3) hne).trans ((block_ne _ (w.heap.size + 1 + 1 + 1) 10 pb (.complex .f64 q3.2.1 q3.2.2) hne).trans ((block_ne _ (w.heap.size + 1 + 1 + 1) 9 pb (.complex .f64 q3.1.1 q3.1.2) hne).trans ((block_ne _ (w.heap.size + 1 + 1 + 1) 8 pb (.int .i64 a2) hne).trans ((block_ne _ (w.heap.size + 1 + 1 + 1) 7 pb (.complex .f64 q2.2.1 q2.2.2) hne).trans ((block_ne _ (w.heap.size + 1 + 1 + 1) 6 pb (.complex .f64 q2.1.1 q2.1.2) hne).trans ((block_ne _ (w.heap.size + 1 + 1 + 1) 5 pb (.int .i64 a1) hne).trans ((block_ne _ (w.heap.size + 1 + 1 + 1) 4 pb (.complex .f64 q1.2.1 q1.2.2) hne).trans ((block_ne _ (w.heap.size + 1 + 1 + 1) 3 pb (.complex .f64 q1.1.1 q1.1.2) hne).trans ((block_ne _ (w.heap.size + 1 + 1 + 1) 2 pb (.int .i64 a0) hne).trans ((block_ne _ (w.heap.size + 1 + 1 + 1) 1 pb (.complex .f64 q0.2.1 q0.2.2) hne).trans ((block_ne _ (w.heap.size + 1 + 1 + 1) 0 pb (.complex .f64 q0.1.1 q0.1.2) hne).trans HBL.out))))))))))))
      have zo := (Only.set (Only.set (Only.set (Only.set (Only.set (Only.set (Only.set (Only.set (Only.set (Only.set (Only.set (Only.set (Only.refl w.heap.size pb wq) (q := ⟨w.heap.size + 1 + 1 + 1, 0, none⟩) (by show w.heap.size ≤ w.heap.size + 1 + 1 + 1; omega) (.complex .f64 q0.1.1 q0.1.2)) (q := ⟨w.heap.size + 1 + 1 + 1, 1, none⟩) (by show w.heap.size ≤ w.heap.size + 1 + 1 + 1; omega) (.complex .f64 q0.2.1 q0.2.2)) (q := ⟨w.heap.size + 1 + 1 + 1, 2, none⟩) (by show w.heap.size ≤ w.heap.size + 1 + 1 + 1; omega) (.int .i64 a0)) (q := ⟨w.heap.size + 1 + 1 + 1, 3, none⟩) (by show w.heap.size ≤ w.heap.size + 1 + 1 + 1; omega) (.complex .f64 q1.1.1 q1.1.2)) (q := ⟨w.heap.size + 1 + 1 + 1, 4, none⟩) (by show w.heap.size ≤ w.heap.size + 1 + 1 + 1; omega) (.complex .f64 q1.2.1 q1.2.2)) (q := ⟨w.heap.size + 1 + 1 + 1, 5, none⟩) (by show w.heap.size ≤ w.heap.size + 1 + 1 + 1; omega) (.int .i64 a1)) (q := ⟨w.heap.size + 1 + 1 + 1, 6, none⟩) (by show w.heap.size ≤ w.heap.size + 1 + 1 + 1; omega) (.complex .f64 q2.1.1 q2.1.2)) (q := ⟨w.heap.size + 1 + 1 + 1, 7, none⟩) (by show w.heap.size ≤ w.heap.size + 1 + 1 + 1; omega) (.complex .f64 q2.2.1 q2.2.2)) (q := ⟨w.heap.size + 1 + 1 + 1, 8, none⟩) (by show w.heap.size ≤ w.heap.size + 1 + 1 + 1; omega) (.int .i64 a2)) (q := ⟨w.heap.size + 1 + 1 + 1, 9, none⟩) (by show w.heap.size ≤ w.heap.size + 1 + 1 + 1; omega) (.complex .f64 q3.1.1 q3.1.2)) (q := ⟨w.heap.size + 1 + 1 + 1, 10, none⟩) (by show w.heap.size ≤ w.heap.size + 1 + 1 + 1; omega) (.complex .f64 q3.2.1 q3.2.2)) (q := ⟨w.heap.size + 1 + 1 + 1, 11, none⟩) (by show w.heap.size ≤ w.heap.size + 1 + 1 + 1; omega) (.int .i64 a3))
      generalize ((((((((((((wq.setCell ⟨w.heap.size + 1 + 1 + 1, 0, none⟩ (.complex .f64 q0.1.1 q0.1.2)).setCell ⟨w.heap.size + 1 + 1 + 1, 1, none⟩ (.complex .f64 q0.2.1 q0.2.2)).setCell ⟨w.heap.size + 1 + 1 + 1, 2, none⟩ (.int .i64 a0)).setCell ⟨w.heap.size + 1 + 1 + 1, 3, none⟩ (.complex .f64 q1.1.1 q1.1.2)).setCell ⟨w.heap.size + 1 + 1 + 1, 4, none⟩ (.complex .f64 q1.2.1 q1.2.2)).setCell ⟨w.heap.size + 1 + 1 + 1, 5, none⟩ (.int .i64 a1)).setCell ⟨w.heap.size + 1 + 1 + 1, 6, none⟩ (.complex .f64 q2.1.1 q2.1.2)).setCell ⟨w.heap.size + 1 + 1 + 1, 7, none⟩ (.complex .f64 q2.2.1 q2.2.2)).setCell ⟨w.heap.size + 1 + 1 + 1, 8, none⟩ (.int .i64 a2)).setCell ⟨w.heap.size + 1 + 1 + 1, 9, none⟩ (.complex .f64 q3.1.1 q3.1.2)).setCell ⟨w.heap.size + 1 + 1 + 1, 10, none⟩ (.complex .f64 q3.2.1 q3.2.2)).setCell ⟨w.heap.size + 1 + 1 + 1, 11, none⟩ (.int .i64 a3)) = wf at z zb zo ⊢
      have z' : wf.heap[w.heap.size + 1 + 1 + 1]? = some (.cells (fd12 q0 q1 q2 q3 a0 a1 a2 a3) 60 (0, 0)) := by rw [← set12]; exact z
      clear z
      clear c0 c1 c2 c3 c4 c5 c6 c7 c8 c9 c10 c11
      have c0 := cell_of_block z' 0
      have c1 := cell_of_block z' 1
      have c2 := cell_of_block z' 2
      have c3 := cell_of_block z' 3
      have c4 := cell_of_block z' 4
      have c5 := cell_of_block z' 5
      have c6 := cell_of_block z' 6
      have c7 := cell_of_block z' 7
      have c8 := cell_of_block z' 8
      have c9 := cell_of_block z' 9
      have c10 := cell_of_block z' 10
      have c11 := cell_of_block z' 11
      simp at c0 c1 c2 c3 c4 c5 c6 c7 c8 c9 c10 c11
      have h1 := HK.out.toOnly (B := w.heap.size) (by simp; omega) (by omega)
      have h2 := HO.out.mono (B' := w.heap.size) (by omega)
      have h3 : Only w.heap.size pb w _ := Only.trans (by (repeat' (first | exact Only.refl _ _ _ | (refine Only.alloc ?_ ?_ _) | (refine Only.plus ?_ ?_ _ _) | (refine Only.drew ?_) | (refine Only.put ?_ _ _) | (refine Only.set ?_ ?_ _) | assumption | omega | (simp; done) | (simp; omega)))) h2
      refine bodyPost_ret (v := .agg (fd12 q0 q1 q2 q3 a0 a1 a2 a3)) ?_ rfl ⟨rfl, ⟨v', zb⟩, ?_⟩
      · simp [results, Try.results24, go_sem, c0, c1, c2, c3, c4, c5, c6, c7, c8, c9, c10, c11]
      · refine Only.trans (b := wq) (Only.trans h3 (Only.trans ?_ h1)) zo
        (repeat' (first | exact Only.refl _ _ _ | (refine Only.alloc ?_ ?_ _) | (refine Only.plus ?_ ?_ _ _) | (refine Only.drew ?_) | (refine Only.put ?_ _ _) | (refine Only.set ?_ ?_ _) | assumption | omega | (simp; done) | (simp; omega)))

end Go.Proofs.Ytbocjicihamahaa
