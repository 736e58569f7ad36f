/- The search, of the given program: what the closure that calls itself does. -/
import Derived.Test.YtbocjicihamahaaY1
import Derived.Outline
set_option linter.unusedSimpArgs false
set_option linter.unusedVariables false
namespace Go.Proofs.Ytbocjicihamahaa
open Go.RowKit
theorem fidx0 (q0 q1 q2 q3 : Bx) (a0 a1 a2 a3 : Int) (w : World) : (Instr.index 60 (.agg (fd12 q0 q1 q2 q3 a0 a1 a2 a3)) (.int .i64 0)).run Try.prog w = .ok (.agg #[.complex .f64 q0.1.1 q0.1.2, .complex .f64 q0.2.1 q0.2.2, .int .i64 a0]) w := by kernel_rfl
theorem fidx1 (q0 q1 q2 q3 : Bx) (a0 a1 a2 a3 : Int) (w : World) : (Instr.index 60 (.agg (fd12 q0 q1 q2 q3 a0 a1 a2 a3)) (.int .i64 1)).run Try.prog w = .ok (.agg #[.complex .f64 q1.1.1 q1.1.2, .complex .f64 q1.2.1 q1.2.2, .int .i64 a1]) w := by kernel_rfl
theorem fidx2 (q0 q1 q2 q3 : Bx) (a0 a1 a2 a3 : Int) (w : World) : (Instr.index 60 (.agg (fd12 q0 q1 q2 q3 a0 a1 a2 a3)) (.int .i64 2)).run Try.prog w = .ok (.agg #[.complex .f64 q2.1.1 q2.1.2, .complex .f64 q2.2.1 q2.2.2, .int .i64 a2]) w := by kernel_rfl
theorem fidx3 (q0 q1 q2 q3 : Bx) (a0 a1 a2 a3 : Int) (w : World) : (Instr.index 60 (.agg (fd12 q0 q1 q2 q3 a0 a1 a2 a3)) (.int .i64 3)).run Try.prog w = .ok (.agg #[.complex .f64 q3.1.1 q3.1.2, .complex .f64 q3.2.1 q3.2.2, .int .i64 a3]) w := by kernel_rfl

theorem Try.info55 : (Try.prog.info? 55).map (fun i => (i.zero, i.size, i.bytes)) = some (some (.agg #[.complex .f64 0 0, .complex .f64 0 0, .int .i64 0]), 3, 40) := by kernel_rfl
theorem own_only' {w wx : World} {B E size pb : Nat} {v : Value} {n : Nat} {xs : List Value} (h : w.ownsRow B E size v n xs) (hO : Only w.heap.size pb w wx) (hp : pb < B) : wx.ownsRow B E size v n xs := by
  refine h.kept (row := some pb) ⟨hO.os, hO.tape, hO.output, hO.size, fun k hk hne => hO.block k hk (fun e => hne (by rw [e]))⟩ (Or.inr ?_)
  intro e
  have := h.lt pb e
  omega
theorem Search.keep {w w1 : World} {B pb pa cm cd cw ca b off cap : Nat} {l : List Pl} {most d n n' : Nat} {fs : List Fd} {v0 v0' va : Value} (S : Search w B pb pa cm cd cw ca b off cap l most d n fs v0 va) (L : Lies B pb pa cm cd cw ca b) (hO : Only w.heap.size pb w w1)
    (hblk : w1.heap[pb]? = some (.cells #[.slice (some ⟨b, off, none⟩) l.length cap, .int .i64 n', v0'] 48 (0, 0))) : Search w1 B pb pa cm cd cw ca b off cap l most d n' fs v0' va := by
  have ht := S.top
  have := L.b2; have := L.b3; have := L.b4; have := L.b5; have := L.b6; have := L.b7
  exact ⟨hblk, (hO.block pa (by omega) L.ab).trans S.all, own_only' S.own hO L.b1, (hO.cell (q := ⟨cm, 0, none⟩) (by simp; omega) L.m1).trans S.hm, (hO.cell (q := ⟨cd, 0, none⟩) (by simp; omega) L.d1).trans S.hd, (hO.cell (q := ⟨cw, 0, none⟩) (by simp; omega) L.w1).trans S.hw,
    (hO.cell (q := ⟨ca, 0, none⟩) (by simp; omega) L.a1).trans S.ha, reads_of (fun o => hO.cell (q := ⟨b, o, none⟩) (by simp; omega) L.l1) S.rd, Nat.le_trans ht hO.size⟩
theorem search_more {w W wa : World} {B pb pa cm cd cw ca b off cap gg cp H : Nat} {l : List Pl} {most d n : Nat} {fs : List Fd} {f : Fd} {v0 va : Value} (S : Search w B pb pa cm cd cw ca b off cap l most d n fs v0 va) (L : Lies B pb pa cm cd cw ca b)
    (hO : Only w.heap.size pb w W) (hblk : W.heap[pb]? = w.heap[pb]?) (hG : W.grownBy wa va.ownBlock) (hown : wa.ownsRow B 55 3 (.slice (some ⟨gg, 0, none⟩) (fs.length + 1) cp) (fs.length + 1) (fdCells fs ++ fdV f.1 f.2)) (hat : va.ownBlock = some gg ∨ gg = H) (hH : w.heap.size ≤ H)
    (ba : wa.heap[pa]? = some (.cells #[va] 52 (0, 0))) :
    Search (wa.setCell ⟨pa, 0, none⟩ (.slice (some ⟨gg, 0, none⟩) (fs.length + 1) cp)) B pb pa cm cd cw ca b off cap l most d n (fs ++ [f]) v0 (.slice (some ⟨gg, 0, none⟩) (fs.length + 1) cp) ∧
      Kept2 w pb pa va (wa.setCell ⟨pa, 0, none⟩ (.slice (some ⟨gg, 0, none⟩) (fs.length + 1) cp)) (.slice (some ⟨gg, 0, none⟩) (fs.length + 1) cp) := by
  have ht := S.top
  have b1 := L.b1; have b2 := L.b2; have b3 := L.b3; have b4 := L.b4; have b5 := L.b5; have b6 := L.b6; have b7 := L.b7
  have hs := hO.size
  have nv : ∀ k, k < B → some k ≠ va.ownBlock := fun k hk e => by have := S.own.lt _ e.symm; omega
  have blk : ∀ k, k < w.heap.size → k ≠ pb → k ≠ pa → some k ≠ va.ownBlock → (wa.setCell ⟨pa, 0, none⟩ (.slice (some ⟨gg, 0, none⟩) (fs.length + 1) cp)).heap[k]? = w.heap[k]? := fun k hk h1 h2 h3 =>
    (block_ne _ _ _ _ _ h2).trans ((hG.block k (by omega) h3).trans (hO.block k hk h1))
  have cel : ∀ k o, k < B → k ≠ pb → k ≠ pa → (wa.setCell ⟨pa, 0, none⟩ (.slice (some ⟨gg, 0, none⟩) (fs.length + 1) cp)).cell? ⟨k, o, none⟩ = w.cell? ⟨k, o, none⟩ := fun k o hk h1 h2 => World.cell?_of_block (w := w) (blk k (by omega) h1 h2 (nv k hk))
  refine ⟨⟨?_, ?_, ?_, (cel _ _ b3 L.m1 L.m2).trans S.hm, (cel _ _ b4 L.d1 L.d2).trans S.hd, (cel _ _ b5 L.w1 L.w2).trans S.hw, (cel _ _ b6 L.a1 L.a2).trans S.ha, reads_of (fun o => cel _ _ b7 L.l1 L.l2) S.rd, ?_⟩, ?_⟩
  · exact (block_ne _ _ _ _ _ (Ne.symm L.ab)).trans ((hG.block pb (by omega) (nv pb b1)).trans (hblk.trans S.blk))
  · exact set_of_block ba 0 _
  · have h := ownsRow_setCell_below hown (a := ⟨pa, 0, none⟩) b2 (.slice (some ⟨gg, 0, none⟩) (fs.length + 1) cp)
    have e : fdCells (fs ++ [f]) = fdCells fs ++ fdV f.1 f.2 := by simp [fdCells]
    rw [e, List.length_append]
    exact h
  · rw [World.size_setCell]
    have := hG.size
    omega
  · refine ⟨hG.os.trans hO.os, hG.tape.trans hO.tape, hG.output.trans hO.output, ?_, blk, ?_⟩
    · rw [World.size_setCell]; exact Nat.le_trans hO.size hG.size
    · rcases hat with h | h
      · exact .inl h.symm
      · refine .inr fun g hgg => ?_
        simp only [Value.ownBlock, Option.some.injEq] at hgg
        omega
/-- What the search comes to. -/
def ApartPost (B pb pa cm cd cw ca b off cap : Nat) (l : List Pl) (most d : Nat) (w : World) (va : Value) (R : Nat × List Fd) (e : Ending) (w' : World) : Prop :=
  e = .returned (.tuple #[]) ∧ ∃ v0' va', Search w' B pb pa cm cd cw ca b off cap l most d R.1 R.2 v0' va' ∧ Kept2 w pb pa va w' va'
def ApartC (B pb pa cm cd cw ca b off cap : Nat) (l : List Pl) (most d K : Nat) : Prop :=
  ∀ (f : Fd) (c : Nat) (cc : Int) (n : Nat) (fs : List Fd) (v0 va : Value) (w : World) (R : Nat × List Fd), cc = c → c ≤ 24 → n ≤ 16384 → Search w B pb pa cm cd cw ca b off cap l most d n fs v0 va → apartS l most d K f c n fs = some R →
    Calls Try.prog 22 #[.agg #[.complex .f64 f.1.1.1 f.1.1.2, .complex .f64 f.1.2.1 f.1.2.2, .int .i64 f.2], .int .i64 cc, .pointer (some ⟨cm, 0, none⟩), .pointer (some ⟨pa, 0, none⟩), .pointer (some ⟨cd, 0, none⟩), .pointer (some ⟨cw, 0, none⟩), .pointer (some ⟨ca, 0, none⟩)] w
      (ApartPost B pb pa cm cd cw ca b off cap l most d w va R)
set_option maxRecDepth 100000 in
set_option maxHeartbeats 2000000 in
theorem apart_step (B pb pa cm cd cw ca b off cap : Nat) (L : Lies B pb pa cm cd cw ca b) (l : List Pl) (most d : Nat) (hd : d ≤ 24) (K : Nat) (ih : ApartC B pb pa cm cd cw ca b off cap l most d K) : ApartC B pb pa cm cd cw ca b off cap l most d (K + 1) := by
  intro f c cc n fs v0 va w R hcc hc24 hn S h
  have ht := S.top
  have lb1 := L.b1; have lb2 := L.b2; have lb3 := L.b3; have lb4 := L.b4; have lb5 := L.b5; have lb6 := L.b6; have lb7 := L.b7
  haveI : Has w pb := ⟨by omega⟩
  haveI : Has w pa := ⟨by omega⟩
  haveI : Has w cm := ⟨by omega⟩
  haveI : Has w cd := ⟨by omega⟩
  haveI : Has w cw := ⟨by omega⟩
  haveI : Has w ca := ⟨by omega⟩
  haveI : Has w b := ⟨by omega⟩
  have hm := S.hm
  have hcd := S.hd
  have hcw := S.hw
  have hca := S.ha
  have IH := hid ih
  have HS := hid S
  have HL := hid L
  have HCC := hid hcc
  clear ih S L hcc
  unfold apartS at h
  by_cases h0 : f.2 = 0
  · rw [if_pos h0] at h
    cases h
    have e0 : (f.2 == 0) = true := by simp [h0]
    clear h0
    go_enter Try.func22, Try.ntmps22
    go_wp2_with fail
    go_end0
    have hO : Only w.heap.size pb w (w.alloc (.cells #[.complex .f64 f.1.1.1 f.1.1.2, .complex .f64 f.1.2.1 f.1.2.2, .int .i64 f.2] 55)) := by (repeat' (first | exact Only.refl _ _ _ | (refine Only.alloc ?_ ?_ _) | (refine Only.plus ?_ ?_ _ _) | (refine Only.drew ?_) | (refine Only.put ?_ _ _) | (refine Only.set ?_ ?_ _) | assumption | omega | (simp; done) | (simp; omega)))
    exact ⟨rfl, v0, va, HS.out.keep HL.out hO (by simp only [block_alloc']; exact HS.out.blk), Kept2.of_only hO⟩
  · rw [if_neg h0] at h
    have e0 : (f.2 == 0) = false := by simp [h0]
    clear h0
    split at h
    · cases h
    · rename_i v hv
      by_cases hfm : fle v most = true
      · rw [if_pos hfm] at h
        have hall := cell_of_block HS.out.all 0
        have hfree := free_of_block HS.out.all 0
        simp at hall
        have HV := hid hv
        have HF := hid hfm
        unfold fle at hfm
        by_cases hlen : fs.length < 1000
        · rw [if_pos hlen] at h
          cases h
          clear hv
          obtain ⟨i0, hi0, hz0, hz1, hz2⟩ := info_parts Try.info55
          go_enter Try.func22, Try.ntmps22
          go_wp2_with fail
          refine (wide_any f.1 v _ HV.out).mono ?_
          rintro e wq ⟨rfl, hb⟩
          obtain ⟨os, dd, rfl⟩ := plus_of_below hb; clear hb
          have nv1 : some pb ≠ va.ownBlock := fun e => by have := HS.out.own.lt _ e.symm; omega
          have nv2 : some pa ≠ va.ownBlock := fun e => by have := HS.out.own.lt _ e.symm; omega
          go_wp2_with ((at_builtin; refine wpList_append_lies _ (by rfl) _ _ _ (by rfl) B 55 i0 _ 3 40 Try.underlying52 hi0 hz0 hz1 hz2 rfl (by omega) va fs.length (fdCells fs) (by rfl) (own_only' HS.out.own (by (repeat' (first | exact Only.refl _ _ _ | (refine Only.alloc ?_ ?_ _) | (refine Only.plus ?_ ?_ _ _) | (refine Only.drew ?_) | (refine Only.put ?_ _ _) | (refine Only.set ?_ ?_ _) | assumption | omega | (simp; done) | (simp; omega)))) lb1) ⟨w.heap.size + 1 + os.size, 0, none⟩ 1 1 (fdV f.1 f.2) (by rfl) (by rfl) (World.news_of_block (cs := #[.complex .f64 f.1.1.1 f.1.1.2, .complex .f64 f.1.2.1 f.1.2.2, .int .i64 f.2]) (t := 55) (fr := (0, 0)) (by simp only [block_drew, block_at])) (by simp [Value.oneCell']) (by omega) (by unfold maxLen; omega) (by omega) (by simp; omega) (w.heap.size + 1 + os.size + 1) (by simp) ?_; intro gg cp wa hown1 hgrow hat hlt; have ba := (hgrow.block pa (by simp; omega) nv2).trans (by simp only [block_drew, block_alloc', block_plus']; exact HS.out.all); have ca0 := cell_of_block ba 0; have fa0 := free_of_block ba 0; simp at ca0; have BA := hid ba; have HG := hid hgrow; have HAT := hid hat; clear ba hgrow hat))
          go_end0
          have hm := search_more HS.out HL.out (by (repeat' (first | exact Only.refl _ _ _ | (refine Only.alloc ?_ ?_ _) | (refine Only.plus ?_ ?_ _ _) | (refine Only.drew ?_) | (refine Only.put ?_ _ _) | (refine Only.set ?_ ?_ _) | assumption | omega | (simp; done) | (simp; omega)))) (by simp only [block_drew, block_alloc', block_plus']) HG.out hown1 HAT.out (by omega) BA.out
          exact ⟨rfl, v0, _, hm.1, hm.2⟩
        · rw [if_neg hlen] at h; cases h
      · rw [if_neg hfm] at h
        have hfm2 : fle v most = false := by simpa using hfm
        clear hfm
        have HV := hid hv
        unfold fle at hfm2
        by_cases hcd2 : c < d
        · rw [if_pos hcd2] at h
          split at h
          · rename_i m g0 g1 g2 g3 hcut
            have HCUT := hid hcut
            have HFOLD : Hid ([g0, g1, g2, g3].foldl (apartF l most d K c) (some (m, fs)) = some R) := hid h
            clear h hcut hv
            have e1 : (cc == (d : Int)) = false := by have := HCC.out; simp; omega
            have j0 := fidx0 g0.1 g1.1 g2.1 g3.1 g0.2 g1.2 g2.2 g3.2
            have j1 := fidx1 g0.1 g1.1 g2.1 g3.1 g0.2 g1.2 g2.2 g3.2
            have j2 := fidx2 g0.1 g1.1 g2.1 g3.1 g0.2 g1.2 g2.2 g3.2
            have j3 := fidx3 g0.1 g1.1 g2.1 g3.1 g0.2 g1.2 g2.2 g3.2
            have hcc25 : 0 ≤ cc ∧ cc ≤ 24 := by have := HCC.out; omega
            go_enter Try.func22, Try.ntmps22
            go_wp2_with fail
            refine (wide_any f.1 v _ HV.out).mono ?_
            rintro e wq ⟨rfl, hb⟩
            obtain ⟨os, dd, rfl⟩ := plus_of_below hb; clear hb
            go_wp2_with fail
            refine (cut_any l f.1 b off cap pb HL.out.l1 d hd n v0 _ m g0 g1 g2 g3 hn Has.lt (by simp only [block_drew, block_alloc', block_plus']; exact HS.out.blk) (reads_of (fun o => by simp [go_sem]) HS.out.rd) HCUT.out).mono ?_
            rintro e wq ⟨rfl, ⟨v1, hbl⟩, hO⟩
            have hO1 : Only w.heap.size pb w wq := Only.trans (by (repeat' (first | exact Only.refl _ _ _ | (refine Only.alloc ?_ ?_ _) | (refine Only.plus ?_ ?_ _ _) | (refine Only.drew ?_) | (refine Only.put ?_ _ _) | (refine Only.set ?_ ?_ _) | assumption | omega | (simp; done) | (simp; omega)))) (hO.mono (B' := w.heap.size) (by simp; omega))
            have S1 := HS.out.keep HL.out hO1 hbl
            have HS1 := hid S1
            have HK1 := hid (Kept2.of_only (pa := pa) (v := va) hO1)
            clear S1 hO hO1 hbl
            go_wp2_with fail
            go_loopw [43] (fun i wr => ∃ (k : Nat) (kk : Int) (m1 : Nat) (fs1 : List Fd) (v1 va1 : Value), k ≤ 4 ∧ kk = k ∧ i = .int .i64 kk ∧ ([g0, g1, g2, g3].drop k).foldl (apartF l most d K c) (some (m1, fs1)) = some R ∧ Search wr B pb pa cm cd cw ca b off cap l most d m1 fs1 v1 va1 ∧ Kept2 w pb pa va wr va1) (fun i _ => 4 - (intOf i).toNat)
            case atStart => exact ⟨0, 0, m, fs, v1, va, by omega, rfl, rfl, HFOLD.out, HS1.out, HK1.out⟩
            case round =>
              obtain ⟨k, kk, m1, fs1, v2, va1, hk, hkk, rfl, hfold, S2, hK2⟩ := hrel
              have ht2 := S2.top
              have rm := S2.hm
              have rd := S2.hd
              have rw' := S2.hw
              have ra := S2.ha
              haveI : Has wr pb := ⟨by omega⟩
              haveI : Has wr pa := ⟨by omega⟩
              haveI : Has wr cm := ⟨by omega⟩
              haveI : Has wr cd := ⟨by omega⟩
              haveI : Has wr cw := ⟨by omega⟩
              haveI : Has wr ca := ⟨by omega⟩
              haveI : Has wr b := ⟨by omega⟩
              have HS2 := hid S2
              have HK2 := hid hK2
              clear S2 hK2
              have hcase : k = 0 ∨ k = 1 ∨ k = 2 ∨ k = 3 ∨ k = 4 := by omega
              rcases hcase with rfl | rfl | rfl | rfl | rfl
              · obtain rfl : kk = 0 := by omega
                clear hkk
                simp only [List.drop] at hfold
                obtain ⟨hm1, r, hr, hf2⟩ := foldF_cons hfold
                have HR := hid hr
                have HF2 := hid hf2
                clear hfold hr hf2
                go_wp2_with fail
                have hO1 : Only wr.heap.size pb wr (wr.alloc (.cells #[.complex .f64 g0.1.1.1 g0.1.1.2, .complex .f64 g0.1.2.1 g0.1.2.2, .int .i64 g0.2] 55)) := by (repeat' (first | exact Only.refl _ _ _ | (refine Only.alloc ?_ ?_ _) | (refine Only.plus ?_ ?_ _ _) | (refine Only.drew ?_) | (refine Only.put ?_ _ _) | (refine Only.set ?_ ?_ _) | assumption | omega | (simp; done) | (simp; omega)))
                refine (IH.out g0 (c + 1) (cc + 1) m1 fs1 v2 va1 _ r (by have := HCC.out; omega) (by omega) hm1 (HS2.out.keep HL.out hO1 (by simp only [block_alloc']; exact HS2.out.blk)) HR.out).mono ?_
                rintro e wq ⟨rfl, v3, va3, hS3, hK3⟩
                have HS3 := hid hS3
                have HK3 := hid ((HK2.out.trans (Kept2.of_only hO1)).trans hK3)
                clear hS3 hK3 hO1
                go_wp2_with fail
                go_roundw
                case rel => exact ⟨1, 1, r.1, r.2, v3, va3, by omega, rfl, by rfl, HF2.out, HS3.out, HK3.out⟩
                case measure => simp [intOf]
              · obtain rfl : kk = 1 := by omega
                clear hkk
                simp only [List.drop] at hfold
                obtain ⟨hm1, r, hr, hf2⟩ := foldF_cons hfold
                have HR := hid hr
                have HF2 := hid hf2
                clear hfold hr hf2
                go_wp2_with fail
                have hO1 : Only wr.heap.size pb wr (wr.alloc (.cells #[.complex .f64 g1.1.1.1 g1.1.1.2, .complex .f64 g1.1.2.1 g1.1.2.2, .int .i64 g1.2] 55)) := by (repeat' (first | exact Only.refl _ _ _ | (refine Only.alloc ?_ ?_ _) | (refine Only.plus ?_ ?_ _ _) | (refine Only.drew ?_) | (refine Only.put ?_ _ _) | (refine Only.set ?_ ?_ _) | assumption | omega | (simp; done) | (simp; omega)))
                refine (IH.out g1 (c + 1) (cc + 1) m1 fs1 v2 va1 _ r (by have := HCC.out; omega) (by omega) hm1 (HS2.out.keep HL.out hO1 (by simp only [block_alloc']; exact HS2.out.blk)) HR.out).mono ?_
                rintro e wq ⟨rfl, v3, va3, hS3, hK3⟩
                have HS3 := hid hS3
                have HK3 := hid ((HK2.out.trans (Kept2.of_only hO1)).trans hK3)
                clear hS3 hK3 hO1
                go_wp2_with fail
                go_roundw
                case rel => exact ⟨2, 2, r.1, r.2, v3, va3, by omega, rfl, by rfl, HF2.out, HS3.out, HK3.out⟩
                case measure => simp [intOf]
              · obtain rfl : kk = 2 := by omega
                clear hkk
                simp only [List.drop] at hfold
                obtain ⟨hm1, r, hr, hf2⟩ := foldF_cons hfold
                have HR := hid hr
                have HF2 := hid hf2
                clear hfold hr hf2
                go_wp2_with fail
                have hO1 : Only wr.heap.size pb wr (wr.alloc (.cells #[.complex .f64 g2.1.1.1 g2.1.1.2, .complex .f64 g2.1.2.1 g2.1.2.2, .int .i64 g2.2] 55)) := by (repeat' (first | exact Only.refl _ _ _ | (refine Only.alloc ?_ ?_ _) | (refine Only.plus ?_ ?_ _ _) | (refine Only.drew ?_) | (refine Only.put ?_ _ _) | (refine Only.set ?_ ?_ _) | assumption | omega | (simp; done) | (simp; omega)))
                refine (IH.out g2 (c + 1) (cc + 1) m1 fs1 v2 va1 _ r (by have := HCC.out; omega) (by omega) hm1 (HS2.out.keep HL.out hO1 (by simp only [block_alloc']; exact HS2.out.blk)) HR.out).mono ?_
                rintro e wq ⟨rfl, v3, va3, hS3, hK3⟩
                have HS3 := hid hS3
                have HK3 := hid ((HK2.out.trans (Kept2.of_only hO1)).trans hK3)
                clear hS3 hK3 hO1
                go_wp2_with fail
                go_roundw
                case rel => exact ⟨3, 3, r.1, r.2, v3, va3, by omega, rfl, by rfl, HF2.out, HS3.out, HK3.out⟩
                case measure => simp [intOf]
              · obtain rfl : kk = 3 := by omega
                clear hkk
                simp only [List.drop] at hfold
                obtain ⟨hm1, r, hr, hf2⟩ := foldF_cons hfold
                have HR := hid hr
                have HF2 := hid hf2
                clear hfold hr hf2
                go_wp2_with fail
                have hO1 : Only wr.heap.size pb wr (wr.alloc (.cells #[.complex .f64 g3.1.1.1 g3.1.1.2, .complex .f64 g3.1.2.1 g3.1.2.2, .int .i64 g3.2] 55)) := by (repeat' (first | exact Only.refl _ _ _ | (refine Only.alloc ?_ ?_ _) | (refine Only.plus ?_ ?_ _ _) | (refine Only.drew ?_) | (refine Only.put ?_ _ _) | (refine Only.set ?_ ?_ _) | assumption | omega | (simp; done) | (simp; omega)))
                refine (IH.out g3 (c + 1) (cc + 1) m1 fs1 v2 va1 _ r (by have := HCC.out; omega) (by omega) hm1 (HS2.out.keep HL.out hO1 (by simp only [block_alloc']; exact HS2.out.blk)) HR.out).mono ?_
                rintro e wq ⟨rfl, v3, va3, hS3, hK3⟩
                have HS3 := hid hS3
                have HK3 := hid ((HK2.out.trans (Kept2.of_only hO1)).trans hK3)
                clear hS3 hK3 hO1
                go_wp2_with fail
                go_roundw
                case rel => exact ⟨4, 4, r.1, r.2, v3, va3, by omega, rfl, by rfl, HF2.out, HS3.out, HK3.out⟩
                case measure => simp [intOf]
              · obtain rfl : kk = 4 := by omega
                clear hkk
                have HF2 := hid hfold
                clear hfold
                go_wp2_with fail
                go_end0
                have hR := HF2.out
                simp only [List.drop, List.foldl] at hR
                injection hR with hR
                subst hR
                exact ⟨rfl, v2, va1, HS2.out, HK2.out⟩
          · cases h
        · rw [if_neg hcd2] at h; cases h
end Go.Proofs.Ytbocjicihamahaa
