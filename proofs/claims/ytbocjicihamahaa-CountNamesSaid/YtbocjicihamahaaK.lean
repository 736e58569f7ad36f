/- The walk over a closed path, of the given program: what the calls do. -/
import Derived.Test.YtbocjicihamahaaJ
import Derived.Laws.EntriesVeiled
import Derived.Laws.OwnMore
import Derived.BigQuiet
set_option linter.unusedSimpArgs false
set_option linter.unusedVariables false
namespace Go.Proofs.Ytbocjicihamahaa
open Go.RowKit

theorem run_makeFunc (fn : Fn) (first cap : Array Value) (w : World) : (Instr.makeFunc fn first cap).run Try.prog w = .ok (.func fn first cap) w := rfl
set_option maxHeartbeats 1000000 in
theorem over_any (l : List Pl) (b off cap B pb : Nat) (hbp : b ≠ pb) (d : Nat) (hd : d ≤ 24) (p q : Pl) (n : Nat) (ks : List Int) (v : Value) (w : World) (r : Bool × Nat × List Int)
    (hn : n ≤ 16384) (hk : ks.length ≤ n) (hb : b < w.heap.size) (hvb : some b ≠ v.ownBlock) (hW : Walk w B pb (.slice (some ⟨b, off, none⟩) l.length cap) n v ks) (hrd : reads w b off l) (h : halfS l d p q n ks = some r) :
    Calls Try.prog 31 #[.pointer (some ⟨pb, 0, none⟩), .complex .f64 p.1 p.2, .complex .f64 q.1 q.2, .int .i64 d] w (HalfPost B pb (.slice (some ⟨b, off, none⟩) l.length cap) v w r) := by
  have hp := lt_of_block hW.blk
  haveI : Has w pb := ⟨hp⟩
  haveI : Has w b := ⟨hb⟩
  have H := hid h
  have HW := hid hW
  have RD := hid hrd
  have HBP := hid hbp
  clear h hW hrd hbp
  have hmf := run_makeFunc
  go_enter Try.func31, Try.ntmps31
  go_wp2_with fail
  refine (half_any l b off cap B pb w.heap.size (w.heap.size + 1) HBP.out (by omega) (by omega) d hd p q n ks v _ r hn hk (by simp; omega) ?_ ?_ hvb ?_ (reads_of ?_ RD.out) ?_ ?_ H.out).mono ?_
  · intro e
    have := HW.out.own.lt _ e.symm
    omega
  · intro e
    have := HW.out.own.lt _ e.symm
    omega
  · refine ⟨?_, own_only HW.out.own ?_ HW.out.low, HW.out.low, ?_⟩
    · simp only [block_alloc']; exact HW.out.blk
    · (repeat' (first | exact Only.refl _ _ _ | (refine Only.alloc ?_ ?_ _) | (refine Only.plus ?_ ?_ _ _) | (refine Only.drew ?_) | (refine Only.put ?_ _ _) | (refine Only.set ?_ ?_ _) | assumption | omega | (simp; done) | (simp; omega)))
    · have := HW.out.top; simp; omega
  · intro o; simp [go_sem]
  · simp [go_sem]
  · simp [go_sem]
  rintro e w2 ⟨hee, v2, hW2, hO2⟩
  have hO3 : Kept w pb v w2 v2 := by
    refine Kept.trans (Kept.of_only ?_) hO2
    (repeat' (first | exact Only.refl _ _ _ | (refine Only.alloc ?_ ?_ _) | (refine Only.plus ?_ ?_ _ _) | (refine Only.drew ?_) | (refine Only.put ?_ _ _) | (refine Only.set ?_ ?_ _) | assumption | omega | (simp; done) | (simp; omega)))
  cases hr : r.1
  case false =>
    obtain rfl : e = .panicked unsureV := hee.trans (by rw [hr]; rfl)
    exact ⟨rfl, by rw [hr]; rfl, v2, hW2, hO3⟩
  case true =>
    obtain rfl : e = .returned (.tuple #[]) := hee.trans (by rw [hr]; rfl)
    go_wp2_with fail
    exact bodyPost_ret (results_none rfl _ _ _) rfl ⟨by rw [hr]; rfl, v2, hW2, hO3⟩

/-- The pieces of a closed path, from its i-th place on. -/
def overGo (l : List Pl) (d : Nat) (path : List Pl) : Nat → Nat → Nat → List Int → Option (Bool × Nat × List Int)
  | 0, _, n, ks => some (true, n, ks)
  | m + 1, i, n, ks => (halfS l d (path.getD i (0, 0)) (path.getD ((i + 1) % path.length) (0, 0)) n ks).bind fun r => if r.1 = true then overGo l d path m (i + 1) r.2.1 r.2.2 else some r
/-- How far the leans go round, from one to the next one on. -/
def turnsS : List Int → Int → Int → Int
  | [], _, s => s
  | k :: r, last, s => turnsS r k (s + ((k - last + 5) % 4 - 1))
theorem overGo_bd (l : List Pl) (d : Nat) (path : List Pl) : ∀ (m i n : Nat) (ks : List Int) (r : Bool × Nat × List Int), n ≤ 16384 → ks.length ≤ n → overGo l d path m i n ks = some r → r.2.1 ≤ 16384 ∧ r.2.2.length ≤ r.2.1 := by
  intro m
  induction m with
  | zero => intro i n ks r hn hk h; cases h; exact ⟨hn, hk⟩
  | succ m ih =>
    intro i n ks r hn hk h
    simp only [overGo] at h
    obtain ⟨r1, h1, h2⟩ := bind_some h
    have b1 := halfS_bd l d _ _ _ _ _ hn hk h1
    split at h2
    · exact ih _ _ _ _ b1.1 b1.2 h2
    · cases h2; exact b1
theorem Kept.only {w w' : World} {pb : Nat} {v' : Value} (h : Kept w pb (.slice none 0 0) w' v') : Only w.heap.size pb w w' := ⟨h.os, h.tape, h.output, h.size, fun k hk hp => h.block k hk hp (by simp [Value.ownBlock])⟩
theorem mod_facts {k n : Nat} (h : 0 < n) : 0 ≤ ((k : Int) + 1) % (n : Int) ∧ ((k : Int) + 1) % (n : Int) < (n : Int) ∧ (((k : Int) + 1) % (n : Int)).toNat = (k + 1) % n := by
  have h1 : ((k : Int) + 1) % (n : Int) = (((k + 1) % n : Nat) : Int) := by simp
  have h2 : (k + 1) % n < n := Nat.mod_lt _ h
  rw [h1]
  refine ⟨by omega, by omega, rfl⟩
set_option maxRecDepth 100000 in
set_option maxHeartbeats 2000000 in
theorem closed_any (l path : List Pl) (b off cap pa poff pcap pb : Nat) (hbp : b ≠ pb) (hpp : pa ≠ pb) (d : Nat) (hd : d ≤ 24) (hlen : 0 < path.length) (hlen2 : path.length ≤ 4096) (n : Nat) (v0 : Value) (w : World) (r : Bool × Nat × List Int)
    (hn : n ≤ 16384) (hb : b < w.heap.size) (hpa : pa < w.heap.size) (hblk : w.heap[pb]? = some (.cells #[.slice (some ⟨b, off, none⟩) l.length cap, .int .i64 n, v0] 48 (0, 0))) (hrd : reads w b off l) (hrp : reads w pa poff path) (h : overGo l d path path.length 0 n [] = some r)
    (hne : r.1 = true → 0 < r.2.2.length ∧ ∀ k ∈ r.2.2, 0 ≤ k ∧ k ≤ 3) :
    Calls Try.prog 17 #[.pointer (some ⟨pb, 0, none⟩), .slice (some ⟨pa, poff, none⟩) path.length pcap, .int .i64 d] w fun e w' =>
      e = (if r.1 = true then .returned (.int .i64 ((turnsS r.2.2 (r.2.2.getLastD 0) 0).tdiv 4)) else .panicked unsureV) ∧ ∃ v', w'.heap[pb]? = some (.cells #[.slice (some ⟨b, off, none⟩) l.length cap, .int .i64 r.2.1, v'] 48 (0, 0)) ∧ Only w.heap.size pb w w' := by
  have hp := lt_of_block hblk
  have c2 := cell_of_block hblk 2
  have f2 := free_of_block hblk 2
  simp at c2
  haveI : Has w pb := ⟨hp⟩
  haveI : Has w b := ⟨hb⟩
  haveI : Has w pa := ⟨hpa⟩
  obtain ⟨B, hB⟩ : ∃ B, B = w.heap.size := ⟨_, rfl⟩
  have H := hid h
  have RD := hid hrd
  have RP := hid hrp
  have HBP := hid hbp
  have HPP := hid hpp
  have HNE := hid hne
  have BLK := hid hblk
  have HB := hid hB
  clear h hblk hrd hrp hbp hpp hne hB
  go_enter Try.func17, Try.ntmps17
  go_wp2_with fail
  go_loopw [7, 8, 18] (fun _ _ i wr => ∃ (k m : Nat) (ks : List Int) (v : Value), k ≤ path.length ∧ i = .int .i64 k ∧ m ≤ 16384 ∧ ks.length ≤ m ∧ overGo l d path (path.length - k) k m ks = some r ∧ Walk wr B pb (.slice (some ⟨b, off, none⟩) l.length cap) m v ks ∧ Kept w pb (.slice none 0 0) wr v) (fun _ _ i _ => path.length - (intOf i).toNat)
  case atStart =>
    refine ⟨0, n, [], .slice none 0 0, Nat.zero_le _, rfl, hn, Nat.zero_le _, H.out, ⟨?_, World.ownsRow_nil _ _ _ _, by rw [HB.out]; exact hp, ?_⟩, Kept.of_only (by (repeat' (first | exact Only.refl _ _ _ | (refine Only.alloc ?_ ?_ _) | (refine Only.plus ?_ ?_ _ _) | (refine Only.drew ?_) | (refine Only.put ?_ _ _) | (refine Only.set ?_ ?_ _) | assumption | omega | (simp; done) | (simp; omega))))⟩
    · exact set_of_block BLK.out 2 _
    · rw [World.size_setCell, HB.out]; exact Nat.le_refl _
  case round =>
    obtain ⟨k, m, ks, v, hk, rfl, hm, hkm, hgo, hWr, hK⟩ := hrel
    haveI : Has wr pb := ⟨lt_of_block hWr.blk⟩
    haveI : Has wr b := ⟨by have := hK.size; omega⟩
    by_cases hlt : k < path.length
    · obtain ⟨m1, m2, m3⟩ := mod_facts (k := k) hlen
      have p0 : wr.cell? ⟨pa, poff + k, none⟩ = _ := (hK.cell hpa HPP.out (by simp [Value.ownBlock])).trans (RP.out k hlt)
      have hmod : (k + 1) % path.length < path.length := Nat.mod_lt _ hlen
      have p1 : wr.cell? ⟨pa, poff + (k + 1) % path.length, none⟩ = _ := (hK.cell hpa HPP.out (by simp [Value.ownBlock])).trans (RP.out _ hmod)
      obtain ⟨t, ht⟩ : ∃ t, path.length - k = t + 1 := ⟨path.length - k - 1, by omega⟩
      rw [ht] at hgo
      simp only [overGo] at hgo
      obtain ⟨r1, h1, h2⟩ := bind_some hgo
      have H1 := hid h1
      have H2 := hid h2
      generalize hpk : path.getD k (0, 0) = pk at p0
      have PK := hid hpk
      clear hpk
      generalize hpj : path.getD ((k + 1) % path.length) (0, 0) = pj at p1
      have PJ := hid hpj
      clear hpj
      clear m3
      have HT := hid ht
      have HWR := hid hWr
      have HK := hid hK
      have HM := hid hm
      have HKM := hid hkm
      clear hgo hWr hK h1 h2 ht hm hkm
      go_wp2_with fail
      refine (over_any l b off cap B pb HBP.out d hd pk pj m ks v _ r1 HM.out HKM.out ?_ ?_ HWR.out ?_ ?_).mono ?_
      · have := HK.out.size
        omega
      · exact own_ne HWR.out.own b (by rw [HB.out]; exact hb)
      · exact reads_of (fun o => HK.out.cell (by exact hb) HBP.out (by simp [Value.ownBlock])) RD.out
      · rw [← PK.out, ← PJ.out]; exact H1.out
      rintro e w2 ⟨hee, v2, hW2, hK2⟩
      have h2 := H2.out
      cases hr : r1.1
      case false =>
        obtain rfl : e = .panicked unsureV := hee.trans (by rw [hr]; rfl)
        rw [if_neg (by simp [hr])] at h2
        cases h2
        exact ⟨rfl, by rw [if_neg (by simp [hr])], v2, hW2.blk, (HK.out.trans hK2).only⟩
      case true =>
        obtain rfl : e = .returned (.tuple #[]) := hee.trans (by rw [hr]; rfl)
        rw [if_pos hr] at h2
        have bd := halfS_bd l d _ _ _ _ _ HM.out HKM.out H1.out
        go_wp2_with fail
        refine ⟨⟨k + 1, r1.2.1, r1.2.2, v2, hlt, by rfl, bd.1, bd.2, ?_, hW2, HK.out.trans hK2⟩, ?_⟩
        · have := HT.out
          rw [show path.length - (k + 1) = t by omega]
          exact h2
        · simp [intOf]
          omega
    · obtain rfl : k = path.length := by omega
      rw [Nat.sub_self] at hgo
      cases hgo
      have hne1 := HNE.out rfl
      have hpos : 0 < ks.length := hne1.1
      have hall : ∀ k ∈ ks, 0 ≤ k ∧ k ≤ 3 := hne1.2
      clear hne1
      clear H HNE
      obtain ⟨g, cp, rfl, hg1, hg2⟩ := hWr.own.form hpos
      have own := hWr.own
      have OWN := hid own
      have WBLK := hid hWr.blk
      have HK := hid hK
      have HALL := hid hall
      have c2r := cell_of_block hWr.blk 2
      simp at c2r
      clear hWr hK hall own
      have hel : ∀ j, j < ks.length → wr.cell? ⟨g, j, none⟩ = some (.int .i64 (ks.getD j 0)) := fun j hj => by
        have h := OWN.out.cellAt j (by omega)
        rw [h]
        simp [List.getD_eq_getElem?_getD, List.getElem?_eq_getElem hj]
      have HEL := hid hel
      clear hel
      obtain ⟨t, ht⟩ : ∃ t, ks.length = t + 1 := ⟨ks.length - 1, by omega⟩
      have el := HEL.out t (by omega)
      have hlast : ks.getLastD 0 = ks.getD t 0 := by
        rw [List.getLastD_eq_getLast?, List.getLast?_eq_getElem?, List.getD_eq_getElem?_getD, ht]
        rfl
      rw [ht] at c2r
      have ltr := HALL.out (ks.getD t 0) (by rw [List.getD_eq_getElem?_getD, List.getElem?_eq_getElem (by omega)]; simp)
      generalize hll : ks.getD t 0 = last0 at el ltr hlast
      have LAST := hid hlast
      have htb : t < 16384 := by omega
      have htc : (t : Int) < 16384 := by omega
      have HT := hid ht
      clear ht hll hlast
      haveI : Has wr g := ⟨hg2⟩
      go_wp2_with fail
      go_quiet (fail)
      go_wp2_with fail
      go_loopw [9, 10, 12, 53] (fun sv lv _ i wq => wq = wr.drewN nq ∧ ∃ (j : Nat) (sn ln : Int), j ≤ t + 1 ∧ i = .int .i64 j ∧ sv = .int .i64 sn ∧ lv = .int .i64 ln ∧ 0 ≤ ln ∧ ln ≤ 3 ∧ -(j : Int) ≤ sn ∧ sn ≤ 2 * (j : Int) ∧ turnsS (ks.drop j) ln sn = turnsS ks last0 0) (fun _ _ _ i _ => t + 1 - (intOf i).toNat)
      case atStart => exact ⟨rfl, 0, 0, last0, Nat.zero_le _, rfl, rfl, rfl, ltr.1, ltr.2, by omega, by omega, rfl⟩
      case round =>
        obtain ⟨rfl, j, sn, ln, hj, rfl, rfl, rfl, hl0, hl3, hs1, hs2, hq⟩ := hrel
        by_cases hjt : j < t + 1
        · have elj := HEL.out j (by have := HT.out; omega)
          have hjk : j < ks.length := by have := HT.out; omega
          have ljr := HALL.out (ks.getD j 0) (by rw [List.getD_eq_getElem?_getD, List.getElem?_eq_getElem hjk]; simp)
          have hdr : ks.drop j = ks.getD j 0 :: ks.drop (j + 1) := by
            rw [List.drop_eq_getElem_cons hjk, List.getD_eq_getElem?_getD, List.getElem?_eq_getElem hjk]
            rfl
          rw [hdr] at hq
          have HQ := hid hq
          clear hq hdr
          generalize hx : ks.getD j 0 = x at elj ljr HQ
          clear hx
          have hm1 : 0 ≤ (x - ln + 5) % 4 ∧ (x - ln + 5) % 4 ≤ 3 := by omega
          go_wp2_with fail
          refine ⟨⟨trivial, j + 1, _, x, hjt, by rfl, rfl, rfl, ljr.1, ljr.2, ?_, ?_, HQ.out⟩, ?_⟩
          · omega
          · omega
          · simp [intOf]
            omega
        · obtain rfl : j = t + 1 := by omega
          have hT := HT.out
          rw [← hT, List.drop_length] at hq
          go_wp2_with fail
          have hll : ks.getLast?.getD 0 = last0 := by rw [← List.getLastD_eq_getLast?]; exact LAST.out
          go_ret
          refine ⟨?_, ⟨_, WBLK.out⟩, HK.out.only.trans ⟨rfl, rfl, rfl, Nat.le_refl _, fun _ _ _ => rfl⟩⟩
          rw [hll, ← hq]
          simp [turnsS]
end Go.Proofs.Ytbocjicihamahaa
