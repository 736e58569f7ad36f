/- The zeros of four boxes, of the given program: what the closure does. -/
import Derived.Test.YtbocjicihamahaaU
set_option linter.unusedSimpArgs false
set_option linter.unusedVariables false
namespace Go.Proofs.Ytbocjicihamahaa
open Go.RowKit
theorem len1 {l : List Int} (h : l.length = 1) : ∃ a, l = [a] := by match l, h with | [a], _ => exact ⟨a, rfl⟩
theorem len2 {l : List Int} (h : l.length = 2) : ∃ a b, l = [a, b] := by match l, h with | [a, b], _ => exact ⟨a, b, rfl⟩
theorem len3 {l : List Int} (h : l.length = 3) : ∃ a b c, l = [a, b, c] := by match l, h with | [a, b, c], _ => exact ⟨a, b, c, rfl⟩
set_option maxRecDepth 100000 in
set_option maxHeartbeats 8000000 in
theorem cutclo_ok (l : List Pl) (q0 q1 q2 q3 : Bx) (b off cap cf cw cd co pb : Nat) (hbp : b ≠ pb) (hbo : b ≠ co) (hfp : cf ≠ pb) (hwp : cw ≠ pb) (hwo : cw ≠ co) (hdp : cd ≠ pb) (hdo : cd ≠ co) (hop : co ≠ pb) (d : Nat) (hd : d ≤ 24) (n : Nat) (v0 : Value) (w : World) (r : Bool × Nat × List Int)
    (hn : n ≤ 16384) (hb : b < w.heap.size) (hblk : w.heap[pb]? = some (.cells #[.slice (some ⟨b, off, none⟩) l.length cap, .int .i64 n, v0] 48 (0, 0))) (hrd : reads w b off l)
    (hcf : w.heap[cf]? = some (.cells (fourV q0 q1 q2 q3) 76 (0, 0))) (hcw : w.cell? ⟨cw, 0, none⟩ = some (.pointer (some ⟨pb, 0, none⟩)))
    (hcd : w.cell? ⟨cd, 0, none⟩ = some (.int .i64 d)) (hco : w.heap[co]? = some (.cells (outV [q0, q1, q2, q3] [] 4).toArray 60 (0, 0)))
    (h : cutGo l d [q0, q1, q2, q3] n = some r) (hrt : r.1 = true) :
    Calls Try.prog 41 #[.pointer (some ⟨cf, 0, none⟩), .pointer (some ⟨cw, 0, none⟩), .pointer (some ⟨cd, 0, none⟩), .pointer (some ⟨co, 0, none⟩)] w (CutPost l b off cap pb co [q0, q1, q2, q3] w r) := by
  have k0 := cell_of_block hcf 0
  have k1 := cell_of_block hcf 1
  have k2 := cell_of_block hcf 2
  have k3 := cell_of_block hcf 3
  have k4 := cell_of_block hcf 4
  have k5 := cell_of_block hcf 5
  have k6 := cell_of_block hcf 6
  have k7 := cell_of_block hcf 7
  simp at k0 k1 k2 k3 k4 k5 k6 k7
  have lcw : cw < w.heap.size := World.block_lt_of_cell? _ _ hcw
  have lcd : cd < w.heap.size := World.block_lt_of_cell? _ _ hcd
  have lco : co < w.heap.size := lt_of_block hco
  have lpb : pb < w.heap.size := lt_of_block hblk
  have H := hid h
  have RD := hid hrd
  have BLK := hid hblk
  have CO := hid hco
  have HCW := hid hcw
  have HCD := hid hcd
  have i0 := idx0 q0 q1 q2 q3
  have i1 := idx1 q0 q1 q2 q3
  have i2 := idx2 q0 q1 q2 q3
  have i3 := idx3 q0 q1 q2 q3
  clear h hblk hrd hcf hco hcw hcd
  go_enter Try.func41, Try.ntmps41
  go_wp2_with fail
  go_outline
  go_loopw [7] (fun i wr => ∃ (k : Nat) (kk : Int) (m : Nat) (v : Value) (ts : List Int) (r1 : Bool × Nat × List Int), k ≤ 4 ∧ kk = k ∧ ts.length = k ∧ i = .int .i64 kk ∧ m ≤ 16384 ∧ cutGo l d ([q0, q1, q2, q3].drop k) m = some r1 ∧ r = (r1.1, r1.2.1, ts ++ r1.2.2) ∧
      wr.heap[pb]? = some (.cells #[.slice (some ⟨b, off, none⟩) l.length cap, .int .i64 m, v] 48 (0, 0)) ∧ Kept w pb (.slice (some ⟨co, 0, none⟩) 0 0) wr (.slice (some ⟨co, 0, none⟩) 0 0) ∧ wr.heap[co]? = some (.cells (outV [q0, q1, q2, q3] ts 4).toArray 60 (0, 0)))
    (fun i _ => 4 - (intOf i).toNat)
  case atStart => exact ⟨0, 0, n, v0, [], r, by omega, rfl, rfl, rfl, hn, H.out, rfl, BLK.out, ⟨rfl, rfl, rfl, Nat.le_refl _, fun _ _ _ _ => rfl, .inl rfl⟩, CO.out⟩
  case round =>
    obtain ⟨k, kk, m, v, ts, r1, hk, hkk, hal, rfl, hm, hgo, hr, hbl, hK, hcb⟩ := hrel
    have wcw : wr.cell? ⟨cw, 0, none⟩ = some (.pointer (some ⟨pb, 0, none⟩)) := (hK.cell (q := ⟨cw, 0, none⟩) lcw hwp (by simpa [Value.ownBlock] using hwo)).trans HCW.out
    have wcd : wr.cell? ⟨cd, 0, none⟩ = some (.int .i64 d) := (hK.cell (q := ⟨cd, 0, none⟩) lcd hdp (by simpa [Value.ownBlock] using hdo)).trans HCD.out
    have wrd : reads wr b off l := reads_of (fun o => hK.cell (q := ⟨b, o, none⟩) hb hbp (by simpa [Value.ownBlock] using hbo)) RD.out
    have hsz := hK.size
    have zb : b < wr.heap.size := by omega
    haveI : Has wr cw := ⟨by omega⟩
    haveI : Has wr cd := ⟨by omega⟩
    haveI : Has wr co := ⟨by omega⟩
    haveI : Has wr b := ⟨by omega⟩
    haveI : Has wr pb := ⟨by omega⟩
    have WRD := hid wrd
    have HK := hid hK
    have WBL := hid hbl
    have WCO := hid hcb
    clear wrd hK hbl hcb
    have hcase : k = 0 ∨ k = 1 ∨ k = 2 ∨ k = 3 ∨ k = 4 := by omega
    rcases hcase with rfl | rfl | rfl | rfl | rfl
    · obtain rfl : kk = 0 := by omega
      clear hkk
      obtain rfl := List.eq_nil_of_length_eq_zero hal
      clear hal
      simp only [List.drop, cutGo] at hgo
      obtain ⟨a, ha, hgo⟩ := bind_some hgo
      have HA := hid ha
      have HG := hid hgo
      have HR := hid hr
      have HNE := hid (overGo_ne (m := 4) (by decide) ha)
      clear ha hgo hr
      cases ha1 : a.1
      case true =>
        go_wp2_with fail
        go_region_held3 (fun W => W.cell? ⟨cw, 0, none⟩ = some (.pointer (some ⟨pb, 0, none⟩)) ∧ W.cell? ⟨wr.heap.size, 0, none⟩ = some (.complex .f64 q0.1.1 q0.1.2) ∧ W.cell? ⟨wr.heap.size, 1, none⟩ = some (.complex .f64 q0.2.1 q0.2.2) ∧ W.cell? ⟨cd, 0, none⟩ = some (.int .i64 d)) (refine ⟨?_, ?_, ?_, ?_⟩ <;> (first | (simp [go_sem, wcw, wcd]; done) | assumption | (simp [go_sem, s0, s1, s2, s3]; done))) (first | (go_at_call 18; ((with_reducible refine (border_any q0 _).mono ?_); rintro e wq ⟨rfl, rfl⟩)) | (go_at_call 17; ((with_reducible refine Calls.mono (closed_border l q0 b off cap _ pb hbp (by have := lpb; simp; omega) d hd m v _ a hm (by simp; omega) (by simp only [block_drew, block_at]) (by simp only [block_alloc', block_drew]; exact WBL.out) (reads_of (fun o => by simp [go_sem]) WRD.out) HA.out HNE.out) ?_); rintro e wq ⟨hee, v', hbl', hO'⟩); obtain rfl : e = .returned (.int .i64 (roundS a.2.2)) := hee.trans (by rw [if_pos ha1]; rfl); have s0 : wq.cell? ⟨cw, 0, none⟩ = some (.pointer (some ⟨pb, 0, none⟩)) := (hO'.cell (q := ⟨cw, 0, none⟩) Has.lt hwp).trans (by simp [go_sem, wcw]); have s1 : wq.cell? ⟨wr.heap.size, 0, none⟩ = some (.complex .f64 q0.1.1 q0.1.2) := (hO'.cell (q := ⟨wr.heap.size, 0, none⟩) (by simp; omega) (by simp; omega)).trans (by simp [go_sem]); have s2 : wq.cell? ⟨wr.heap.size, 1, none⟩ = some (.complex .f64 q0.2.1 q0.2.2) := (hO'.cell (q := ⟨wr.heap.size, 1, none⟩) (by simp; omega) (by simp; omega)).trans (by simp [go_sem]); have s3 : wq.cell? ⟨cd, 0, none⟩ = some (.int .i64 d) := (hO'.cell (q := ⟨cd, 0, none⟩) Has.lt hdp).trans (by simp [go_sem, wcd]); have bco : wq.heap[co]? = some (.cells (outV [q0, q1, q2, q3] [] 4).toArray 60 (0, 0)) := (hO'.block co Has.lt hop).trans (by simp only [block_alloc', block_drew]; exact WCO.out); have co0 := cell_of_block bco 0; have co1 := cell_of_block bco 1; have co2 := cell_of_block bco 2; have fo0 := free_of_block bco 0; have fo1 := free_of_block bco 1; have fo2 := free_of_block bco 2; simp [outV, fdV, fd0] at co0 co1 co2; haveI : Has wq co := ⟨lt_of_block bco⟩; have BCO := hid bco; have HBL := hid hbl'; have HO := hid hO'; clear bco hbl' hO' hee))
        go_wp2_with fail
        go_roundw
        case rel =>
          have hg := HG.out
          rw [if_pos ha1] at hg
          obtain ⟨bb, hb1, hg⟩ := bind_some hg
          injection hg with hg
          have hr := HR.out
          rw [← hg] at hr
          refine ⟨1, 1, a.2.1, v', [roundS a.2.2], bb, by omega, rfl, rfl, by rfl, (overGo_bd l d (borderS q0) 4 0 m [] a hm (Nat.zero_le _) HA.out).1, hb1, by rw [hr]; rfl, ?_, ?_, ?_⟩
          · simp only [block_ne _ _ _ _ _ (Ne.symm hop)]; exact HBL.out
          · refine (((HK.out.trans (Kept.of_only (Only.trans (a := wr) (b := _) ?_ (HO.out.mono (B' := wr.heap.size) (by simp; omega))))).setOwn _ _).setOwn _ _).setOwn _ _
            (repeat' (first | exact Only.refl _ _ _ | (refine Only.alloc ?_ ?_ _) | (refine Only.plus ?_ ?_ _ _) | (refine Only.drew ?_) | (refine Only.put ?_ _ _) | (refine Only.set ?_ ?_ _) | assumption | omega | (simp; done) | (simp; omega)))
          · have z := set_of_block (set_of_block (set_of_block BCO.out 0 (.complex .f64 q0.1.1 q0.1.2)) 1 (.complex .f64 q0.2.1 q0.2.2)) 2 (.int .i64 (roundS a.2.2))
            exact z
        case measure => simp [intOf]
      case false =>
        have hg := HG.out
        rw [if_neg (by simp [ha1])] at hg
        injection hg with hg
        rw [HR.out, ← hg] at hrt
        cases hrt
    · obtain rfl : kk = 1 := by omega
      clear hkk
      obtain ⟨t0, rfl⟩ := len1 hal
      clear hal
      simp only [List.drop, cutGo] at hgo
      obtain ⟨a, ha, hgo⟩ := bind_some hgo
      have HA := hid ha
      have HG := hid hgo
      have HR := hid hr
      have HNE := hid (overGo_ne (m := 4) (by decide) ha)
      clear ha hgo hr
      cases ha1 : a.1
      case true =>
        go_wp2_with fail
        go_region_held3 (fun W => W.cell? ⟨cw, 0, none⟩ = some (.pointer (some ⟨pb, 0, none⟩)) ∧ W.cell? ⟨wr.heap.size, 0, none⟩ = some (.complex .f64 q1.1.1 q1.1.2) ∧ W.cell? ⟨wr.heap.size, 1, none⟩ = some (.complex .f64 q1.2.1 q1.2.2) ∧ W.cell? ⟨cd, 0, none⟩ = some (.int .i64 d)) (refine ⟨?_, ?_, ?_, ?_⟩ <;> (first | (simp [go_sem, wcw, wcd]; done) | assumption | (simp [go_sem, s0, s1, s2, s3]; done))) (first | (go_at_call 18; ((with_reducible refine (border_any q1 _).mono ?_); rintro e wq ⟨rfl, rfl⟩)) | (go_at_call 17; ((with_reducible refine Calls.mono (closed_border l q1 b off cap _ pb hbp (by have := lpb; simp; omega) d hd m v _ a hm (by simp; omega) (by simp only [block_drew, block_at]) (by simp only [block_alloc', block_drew]; exact WBL.out) (reads_of (fun o => by simp [go_sem]) WRD.out) HA.out HNE.out) ?_); rintro e wq ⟨hee, v', hbl', hO'⟩); obtain rfl : e = .returned (.int .i64 (roundS a.2.2)) := hee.trans (by rw [if_pos ha1]; rfl); have s0 : wq.cell? ⟨cw, 0, none⟩ = some (.pointer (some ⟨pb, 0, none⟩)) := (hO'.cell (q := ⟨cw, 0, none⟩) Has.lt hwp).trans (by simp [go_sem, wcw]); have s1 : wq.cell? ⟨wr.heap.size, 0, none⟩ = some (.complex .f64 q1.1.1 q1.1.2) := (hO'.cell (q := ⟨wr.heap.size, 0, none⟩) (by simp; omega) (by simp; omega)).trans (by simp [go_sem]); have s2 : wq.cell? ⟨wr.heap.size, 1, none⟩ = some (.complex .f64 q1.2.1 q1.2.2) := (hO'.cell (q := ⟨wr.heap.size, 1, none⟩) (by simp; omega) (by simp; omega)).trans (by simp [go_sem]); have s3 : wq.cell? ⟨cd, 0, none⟩ = some (.int .i64 d) := (hO'.cell (q := ⟨cd, 0, none⟩) Has.lt hdp).trans (by simp [go_sem, wcd]); have bco : wq.heap[co]? = some (.cells (outV [q0, q1, q2, q3] [t0] 4).toArray 60 (0, 0)) := (hO'.block co Has.lt hop).trans (by simp only [block_alloc', block_drew]; exact WCO.out); have co0 := cell_of_block bco 3; have co1 := cell_of_block bco 4; have co2 := cell_of_block bco 5; have fo0 := free_of_block bco 3; have fo1 := free_of_block bco 4; have fo2 := free_of_block bco 5; simp [outV, fdV, fd0] at co0 co1 co2; haveI : Has wq co := ⟨lt_of_block bco⟩; have BCO := hid bco; have HBL := hid hbl'; have HO := hid hO'; clear bco hbl' hO' hee))
        go_wp2_with fail
        go_roundw
        case rel =>
          have hg := HG.out
          rw [if_pos ha1] at hg
          obtain ⟨bb, hb1, hg⟩ := bind_some hg
          injection hg with hg
          have hr := HR.out
          rw [← hg] at hr
          refine ⟨2, 2, a.2.1, v', [t0, roundS a.2.2], bb, by omega, rfl, rfl, by rfl, (overGo_bd l d (borderS q1) 4 0 m [] a hm (Nat.zero_le _) HA.out).1, hb1, by rw [hr]; rfl, ?_, ?_, ?_⟩
          · simp only [block_ne _ _ _ _ _ (Ne.symm hop)]; exact HBL.out
          · refine (((HK.out.trans (Kept.of_only (Only.trans (a := wr) (b := _) ?_ (HO.out.mono (B' := wr.heap.size) (by simp; omega))))).setOwn _ _).setOwn _ _).setOwn _ _
            (repeat' (first | exact Only.refl _ _ _ | (refine Only.alloc ?_ ?_ _) | (refine Only.plus ?_ ?_ _ _) | (refine Only.drew ?_) | (refine Only.put ?_ _ _) | (refine Only.set ?_ ?_ _) | assumption | omega | (simp; done) | (simp; omega)))
          · have z := set_of_block (set_of_block (set_of_block BCO.out 3 (.complex .f64 q1.1.1 q1.1.2)) 4 (.complex .f64 q1.2.1 q1.2.2)) 5 (.int .i64 (roundS a.2.2))
            exact z
        case measure => simp [intOf]
      case false =>
        have hg := HG.out
        rw [if_neg (by simp [ha1])] at hg
        injection hg with hg
        rw [HR.out, ← hg] at hrt
        cases hrt
    · obtain rfl : kk = 2 := by omega
      clear hkk
      obtain ⟨t0, t1, rfl⟩ := len2 hal
      clear hal
      simp only [List.drop, cutGo] at hgo
      obtain ⟨a, ha, hgo⟩ := bind_some hgo
      have HA := hid ha
      have HG := hid hgo
      have HR := hid hr
      have HNE := hid (overGo_ne (m := 4) (by decide) ha)
      clear ha hgo hr
      cases ha1 : a.1
      case true =>
        go_wp2_with fail
        go_region_held3 (fun W => W.cell? ⟨cw, 0, none⟩ = some (.pointer (some ⟨pb, 0, none⟩)) ∧ W.cell? ⟨wr.heap.size, 0, none⟩ = some (.complex .f64 q2.1.1 q2.1.2) ∧ W.cell? ⟨wr.heap.size, 1, none⟩ = some (.complex .f64 q2.2.1 q2.2.2) ∧ W.cell? ⟨cd, 0, none⟩ = some (.int .i64 d)) (refine ⟨?_, ?_, ?_, ?_⟩ <;> (first | (simp [go_sem, wcw, wcd]; done) | assumption | (simp [go_sem, s0, s1, s2, s3]; done))) (first | (go_at_call 18; ((with_reducible refine (border_any q2 _).mono ?_); rintro e wq ⟨rfl, rfl⟩)) | (go_at_call 17; ((with_reducible refine Calls.mono (closed_border l q2 b off cap _ pb hbp (by have := lpb; simp; omega) d hd m v _ a hm (by simp; omega) (by simp only [block_drew, block_at]) (by simp only [block_alloc', block_drew]; exact WBL.out) (reads_of (fun o => by simp [go_sem]) WRD.out) HA.out HNE.out) ?_); rintro e wq ⟨hee, v', hbl', hO'⟩); obtain rfl : e = .returned (.int .i64 (roundS a.2.2)) := hee.trans (by rw [if_pos ha1]; rfl); have s0 : wq.cell? ⟨cw, 0, none⟩ = some (.pointer (some ⟨pb, 0, none⟩)) := (hO'.cell (q := ⟨cw, 0, none⟩) Has.lt hwp).trans (by simp [go_sem, wcw]); have s1 : wq.cell? ⟨wr.heap.size, 0, none⟩ = some (.complex .f64 q2.1.1 q2.1.2) := (hO'.cell (q := ⟨wr.heap.size, 0, none⟩) (by simp; omega) (by simp; omega)).trans (by simp [go_sem]); have s2 : wq.cell? ⟨wr.heap.size, 1, none⟩ = some (.complex .f64 q2.2.1 q2.2.2) := (hO'.cell (q := ⟨wr.heap.size, 1, none⟩) (by simp; omega) (by simp; omega)).trans (by simp [go_sem]); have s3 : wq.cell? ⟨cd, 0, none⟩ = some (.int .i64 d) := (hO'.cell (q := ⟨cd, 0, none⟩) Has.lt hdp).trans (by simp [go_sem, wcd]); have bco : wq.heap[co]? = some (.cells (outV [q0, q1, q2, q3] [t0, t1] 4).toArray 60 (0, 0)) := (hO'.block co Has.lt hop).trans (by simp only [block_alloc', block_drew]; exact WCO.out); have co0 := cell_of_block bco 6; have co1 := cell_of_block bco 7; have co2 := cell_of_block bco 8; have fo0 := free_of_block bco 6; have fo1 := free_of_block bco 7; have fo2 := free_of_block bco 8; simp [outV, fdV, fd0] at co0 co1 co2; haveI : Has wq co := ⟨lt_of_block bco⟩; have BCO := hid bco; have HBL := hid hbl'; have HO := hid hO'; clear bco hbl' hO' hee))
        go_wp2_with fail
        go_roundw
        case rel =>
          have hg := HG.out
          rw [if_pos ha1] at hg
          obtain ⟨bb, hb1, hg⟩ := bind_some hg
          injection hg with hg
          have hr := HR.out
          rw [← hg] at hr
          refine ⟨3, 3, a.2.1, v', [t0, t1, roundS a.2.2], bb, by omega, rfl, rfl, by rfl, (overGo_bd l d (borderS q2) 4 0 m [] a hm (Nat.zero_le _) HA.out).1, hb1, by rw [hr]; rfl, ?_, ?_, ?_⟩
          · simp only [block_ne _ _ _ _ _ (Ne.symm hop)]; exact HBL.out
          · refine (((HK.out.trans (Kept.of_only (Only.trans (a := wr) (b := _) ?_ (HO.out.mono (B' := wr.heap.size) (by simp; omega))))).setOwn _ _).setOwn _ _).setOwn _ _
            (repeat' (first | exact Only.refl _ _ _ | (refine Only.alloc ?_ ?_ _) | (refine Only.plus ?_ ?_ _ _) | (refine Only.drew ?_) | (refine Only.put ?_ _ _) | (refine Only.set ?_ ?_ _) | assumption | omega | (simp; done) | (simp; omega)))
          · have z := set_of_block (set_of_block (set_of_block BCO.out 6 (.complex .f64 q2.1.1 q2.1.2)) 7 (.complex .f64 q2.2.1 q2.2.2)) 8 (.int .i64 (roundS a.2.2))
            exact z
        case measure => simp [intOf]
      case false =>
        have hg := HG.out
        rw [if_neg (by simp [ha1])] at hg
        injection hg with hg
        rw [HR.out, ← hg] at hrt
        cases hrt
    · obtain rfl : kk = 3 := by omega
      clear hkk
      obtain ⟨t0, t1, t2, rfl⟩ := len3 hal
      clear hal
      simp only [List.drop, cutGo] at hgo
      obtain ⟨a, ha, hgo⟩ := bind_some hgo
      have HA := hid ha
      have HG := hid hgo
      have HR := hid hr
      have HNE := hid (overGo_ne (m := 4) (by decide) ha)
      clear ha hgo hr
      cases ha1 : a.1
      case true =>
        go_wp2_with fail
        go_region_held3 (fun W => W.cell? ⟨cw, 0, none⟩ = some (.pointer (some ⟨pb, 0, none⟩)) ∧ W.cell? ⟨wr.heap.size, 0, none⟩ = some (.complex .f64 q3.1.1 q3.1.2) ∧ W.cell? ⟨wr.heap.size, 1, none⟩ = some (.complex .f64 q3.2.1 q3.2.2) ∧ W.cell? ⟨cd, 0, none⟩ = some (.int .i64 d)) (refine ⟨?_, ?_, ?_, ?_⟩ <;> (first | (simp [go_sem, wcw, wcd]; done) | assumption | (simp [go_sem, s0, s1, s2, s3]; done))) (first | (go_at_call 18; ((with_reducible refine (border_any q3 _).mono ?_); rintro e wq ⟨rfl, rfl⟩)) | (go_at_call 17; ((with_reducible refine Calls.mono (closed_border l q3 b off cap _ pb hbp (by have := lpb; simp; omega) d hd m v _ a hm (by simp; omega) (by simp only [block_drew, block_at]) (by simp only [block_alloc', block_drew]; exact WBL.out) (reads_of (fun o => by simp [go_sem]) WRD.out) HA.out HNE.out) ?_); rintro e wq ⟨hee, v', hbl', hO'⟩); obtain rfl : e = .returned (.int .i64 (roundS a.2.2)) := hee.trans (by rw [if_pos ha1]; rfl); have s0 : wq.cell? ⟨cw, 0, none⟩ = some (.pointer (some ⟨pb, 0, none⟩)) := (hO'.cell (q := ⟨cw, 0, none⟩) Has.lt hwp).trans (by simp [go_sem, wcw]); have s1 : wq.cell? ⟨wr.heap.size, 0, none⟩ = some (.complex .f64 q3.1.1 q3.1.2) := (hO'.cell (q := ⟨wr.heap.size, 0, none⟩) (by simp; omega) (by simp; omega)).trans (by simp [go_sem]); have s2 : wq.cell? ⟨wr.heap.size, 1, none⟩ = some (.complex .f64 q3.2.1 q3.2.2) := (hO'.cell (q := ⟨wr.heap.size, 1, none⟩) (by simp; omega) (by simp; omega)).trans (by simp [go_sem]); have s3 : wq.cell? ⟨cd, 0, none⟩ = some (.int .i64 d) := (hO'.cell (q := ⟨cd, 0, none⟩) Has.lt hdp).trans (by simp [go_sem, wcd]); have bco : wq.heap[co]? = some (.cells (outV [q0, q1, q2, q3] [t0, t1, t2] 4).toArray 60 (0, 0)) := (hO'.block co Has.lt hop).trans (by simp only [block_alloc', block_drew]; exact WCO.out); have co0 := cell_of_block bco 9; have co1 := cell_of_block bco 10; have co2 := cell_of_block bco 11; have fo0 := free_of_block bco 9; have fo1 := free_of_block bco 10; have fo2 := free_of_block bco 11; simp [outV, fdV, fd0] at co0 co1 co2; haveI : Has wq co := ⟨lt_of_block bco⟩; have BCO := hid bco; have HBL := hid hbl'; have HO := hid hO'; clear bco hbl' hO' hee))
        go_wp2_with fail
        go_roundw
        case rel =>
          have hg := HG.out
          rw [if_pos ha1] at hg
          obtain ⟨bb, hb1, hg⟩ := bind_some hg
          injection hg with hg
          have hr := HR.out
          rw [← hg] at hr
          refine ⟨4, 4, a.2.1, v', [t0, t1, t2, roundS a.2.2], bb, by omega, rfl, rfl, by rfl, (overGo_bd l d (borderS q3) 4 0 m [] a hm (Nat.zero_le _) HA.out).1, hb1, by rw [hr]; rfl, ?_, ?_, ?_⟩
          · simp only [block_ne _ _ _ _ _ (Ne.symm hop)]; exact HBL.out
          · refine (((HK.out.trans (Kept.of_only (Only.trans (a := wr) (b := _) ?_ (HO.out.mono (B' := wr.heap.size) (by simp; omega))))).setOwn _ _).setOwn _ _).setOwn _ _
            (repeat' (first | exact Only.refl _ _ _ | (refine Only.alloc ?_ ?_ _) | (refine Only.plus ?_ ?_ _ _) | (refine Only.drew ?_) | (refine Only.put ?_ _ _) | (refine Only.set ?_ ?_ _) | assumption | omega | (simp; done) | (simp; omega)))
          · have z := set_of_block (set_of_block (set_of_block BCO.out 9 (.complex .f64 q3.1.1 q3.1.2)) 10 (.complex .f64 q3.2.1 q3.2.2)) 11 (.int .i64 (roundS a.2.2))
            exact z
        case measure => simp [intOf]
      case false =>
        have hg := HG.out
        rw [if_neg (by simp [ha1])] at hg
        injection hg with hg
        rw [HR.out, ← hg] at hrt
        cases hrt
    · obtain rfl : kk = 4 := by omega
      clear hkk
      simp only [List.drop, cutGo] at hgo
      cases hgo
      have HR := hid hr
      have HL := hid hal
      have HT := hid hrt
      clear hr hal hrt
      go_wp2_with fail
      go_end0
      have hr := HR.out
      refine ⟨by rw [hr]; rfl, v, by rw [hr]; exact WBL.out, HK.out, fun _ => ?_⟩
      rw [hr]
      simpa using WCO.out
end Go.Proofs.Ytbocjicihamahaa
