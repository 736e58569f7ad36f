/- Horner's steps over boxes, of the given program: what each call answers. -/
import Derived.Test.YtbocjicihamahaaF
set_option linter.unusedSimpArgs false
set_option linter.unusedVariables false
namespace Go.Proofs.Ytbocjicihamahaa
open Go.RowKit

/-- Horner's steps, the boxes of the coefficients from the one behind the last on. -/
def hornerGo : List Bx → Bx → Bx → Option (Bx × Int)
  | [], v, _ => some (v, 0)
  | c :: r, v, x => (mulS v x).bind fun p => if p.2 = 0 then (addS p.1 c).bind fun q => if q.2 = 0 then hornerGo r q.1 x else some (bz, q.2) else some (bz, p.2)
/-- Boxes in a block, from its head on. -/
def boxes (w : World) (g : Nat) (cs : List Bx) : Prop := ∀ i, i < cs.length → w.cell? ⟨g, i * 2, none⟩ = some (.complex .f64 (cs.getD i bz).1.1 (cs.getD i bz).1.2) ∧ w.cell? ⟨g, i * 2 + 1, none⟩ = some (.complex .f64 (cs.getD i bz).2.1 (cs.getD i bz).2.2)
theorem has_of_cell {w : World} {g o : Nat} {v : Value} (h : w.cell? ⟨g, o, none⟩ = some v) : Has w g := ⟨World.block_lt_of_cell? _ _ h⟩
set_option maxHeartbeats 1000000 in
theorem horner_one (c : Bx) (x : Bx) (g : Nat) (w : World) (hc : boxes w g [c]) :
    Calls Try.prog 62 #[.slice (some ⟨g, 0, none⟩) 1 1, .agg #[.complex .f64 x.1.1 x.1.2, .complex .f64 x.2.1 x.2.2]] w fun e w' => e = .returned (.tuple #[bv c, .int .i64 0]) ∧ Below w.heap.size w w' := by
  have h0 := hc 0 (by simp)
  simp only [Nat.zero_mul, List.getD_cons_zero, Nat.zero_add] at h0
  obtain ⟨h00, h01⟩ := h0
  haveI := has_of_cell h00
  clear hc
  go_enter Try.func62, Try.ntmps62
  go_wp2
  go_rounds 1
  go_returns
  exact ⟨rfl, by (repeat' (first | exact Below.refl _ _ | (refine Below.alloc ?_ ?_ _) | (refine below_plus ?_ ?_ _ _) | (refine Below.drew ?_) | (refine Below.setCell ?_ ?_ _) | (simp; done) | (simp; omega) | assumption))⟩
set_option maxHeartbeats 2000000 in
theorem horner_any (c : Bx) (cs : List Bx) (x : Bx) (r : Bx × Int) (g : Nat) (w : World) (hn : cs.length ≤ 64) (h1 : 0 < cs.length) (hc : boxes w g (c :: cs)) (h : hornerGo cs c x = some r) :
    Calls Try.prog 62 #[.slice (some ⟨g, 0, none⟩) (cs.length + 1) (cs.length + 1), .agg #[.complex .f64 x.1.1 x.1.2, .complex .f64 x.2.1 x.2.2]] w fun e w' => e = .returned (.tuple #[bv r.1, .int .i64 r.2]) ∧ Below w.heap.size w w' := by
  have h0 := hc 0 (by simp)
  simp only [Nat.zero_mul, List.getD_cons_zero, Nat.zero_add] at h0
  obtain ⟨h00, h01⟩ := h0
  have hg := World.block_lt_of_cell? _ _ h00
  haveI := has_of_cell h00
  have HC := hid hc
  have H := hid h
  clear hc h
  have hne : ¬ (cs.length = 0) := by omega
  go_enter Try.func62, Try.ntmps62
  go_wp2_with fail
  go_loopw [8, 9, 10, 17] (fun _ _ _ i wr => ∃ (k : Nat) (v : Bx), k ≤ cs.length ∧ i = .int .i64 k ∧ hornerGo (cs.drop k) v x = some r ∧ wr.heap[w.heap.size]? = some (.cells #[.complex .f64 x.1.1 x.1.2, .complex .f64 x.2.1 x.2.2] 29 (0, 0)) ∧ wr.heap[w.heap.size + 1]? = some (.cells #[.complex .f64 0 0, .complex .f64 0 0] 29 (0, 0)) ∧ wr.heap[w.heap.size + 1 + 1]? = some (.cells #[.complex .f64 v.1.1 v.1.2, .complex .f64 v.2.1 v.2.2] 29 (0, 0)) ∧ Below w.heap.size w wr) (fun _ _ _ i _ => cs.length - (intOf i).toNat)
  case atStart =>
    refine ⟨0, c, Nat.zero_le _, rfl, H.out, ?_, ?_, ?_, by (repeat' (first | exact Below.refl _ _ | (refine Below.alloc ?_ ?_ _) | (refine below_plus ?_ ?_ _ _) | (refine Below.drew ?_) | (refine Below.setCell ?_ ?_ _) | (simp; done) | (simp; omega) | assumption))⟩
    · simp only [block_alloc', block_at]
    · simp only [block_alloc', block_at]
    · simp only [block_alloc', block_at]
  case round =>
    obtain ⟨k, v, hk, rfl, hgo, x0, z0, v0, hB⟩ := hrel
    have HGO := hid hgo
    clear hgo
    haveI : Has wr w.heap.size := ⟨lt_of_block x0⟩
    haveI : Has wr (w.heap.size + 1) := ⟨lt_of_block z0⟩
    haveI : Has wr (w.heap.size + 1 + 1) := ⟨lt_of_block v0⟩
    have sz := lt_of_block v0
    have xc0 := cell_of_block x0 0
    have xc1 := cell_of_block x0 1
    have zc0 := cell_of_block z0 0
    have zc1 := cell_of_block z0 1
    have vc0 := cell_of_block v0 0
    have vc1 := cell_of_block v0 1
    have zf0 := free_of_block z0 0
    have zf1 := free_of_block z0 1
    have vf0 := free_of_block v0 0
    have vf1 := free_of_block v0 1
    simp at xc0 xc1 zc0 zc1 vc0 vc1
    have X0 := hid x0
    have Z0 := hid z0
    have V0 := hid v0
    clear x0 z0 v0
    by_cases hlt : k < cs.length
    · have hel := HC.out (k + 1) (by simp; omega)
      rw [List.getD_cons_succ] at hel
      have hdrop : cs.drop k = cs.getD k bz :: cs.drop (k + 1) := by
        rw [List.drop_eq_getElem_cons hlt]
        simp [List.getD, hlt]
      have hgo := HGO.out
      rw [hdrop] at hgo
      clear hdrop HGO
      generalize hcc : cs.getD k bz = cc at hel hgo
      clear hcc
      obtain ⟨el0, el1⟩ := hel
      have l0 : wr.cell? ⟨g, 2 + k * 2, none⟩ = _ := (hB.cell (p := ⟨g, 2 + k * 2, none⟩) hg).trans ((congrArg (fun o => w.cell? ⟨g, o, none⟩) (by omega)).trans el0)
      have l1 : wr.cell? ⟨g, 2 + k * 2 + 1, none⟩ = _ := (hB.cell (p := ⟨g, 2 + k * 2 + 1, none⟩) hg).trans ((congrArg (fun o => w.cell? ⟨g, o, none⟩) (by omega)).trans el1)
      clear el0 el1
      simp only [hornerGo] at hgo
      obtain ⟨p, hp, hgo⟩ := bind_some hgo
      have HP := hid hp
      clear hp
      by_cases hp0 : p.2 = 0
      · rw [if_pos hp0] at hgo
        have hpn : (p.2 != 0) = false := by simp [hp0]
        clear hp0
        obtain ⟨q, hq, hgo⟩ := bind_some hgo
        have HQ := hid hq
        clear hq
        by_cases hq0 : q.2 = 0
        · rw [if_pos hq0] at hgo
          have hqn : (q.2 != 0) = false := by simp [hq0]
          clear hq0
          have HGO := hid hgo
          clear hgo
          go_wp2_with (first | (go_at_call 76; refine (mul_any _ _ _ _ HP.out).mono ?_; rintro e wq ⟨rfl, hb⟩; obtain ⟨os, d, rfl⟩ := plus_of_below hb; clear hb) | (go_at_call 77; refine (add_any _ _ _ _ HQ.out).mono ?_; rintro e wq ⟨rfl, hb⟩; obtain ⟨os, d, rfl⟩ := plus_of_below hb; clear hb))
          refine ⟨⟨k + 1, q.1, by omega, by go_num, HGO.out, ?_, ?_, ?_, ?_⟩, by simp [intOf]; omega⟩
          · simp only [block_plus', block_alloc']
            rw [block_ne _ _ _ _ _ (by omega), block_ne _ _ _ _ _ (by omega)]
            exact X0.out
          · simp only [block_plus', block_alloc']
            rw [block_ne _ _ _ _ _ (by omega), block_ne _ _ _ _ _ (by omega)]
            exact Z0.out
          · simp only [block_plus', block_alloc']
            exact set_of_block (set_of_block V0.out 0 _) 1 _
          · (repeat' (first | exact Below.refl _ _ | (refine Below.alloc ?_ ?_ _) | (refine below_plus ?_ ?_ _ _) | (refine Below.drew ?_) | (refine Below.setCell ?_ ?_ _) | (simp; done) | (simp; omega) | assumption))
        · rw [if_neg hq0] at hgo
          cases hgo
          have hqn : (q.2 != 0) = true := by simp [hq0]
          clear hq0
          go_wp2_with (first | (go_at_call 76; refine (mul_any _ _ _ _ HP.out).mono ?_; rintro e wq ⟨rfl, hb⟩; obtain ⟨os, d, rfl⟩ := plus_of_below hb; clear hb) | (go_at_call 77; refine (add_any _ _ _ _ HQ.out).mono ?_; rintro e wq ⟨rfl, hb⟩; obtain ⟨os, d, rfl⟩ := plus_of_below hb; clear hb))
          exact bodyPost_ret (v := .tuple #[bv bz, .int .i64 q.2]) (by simp [results, Try.results62, go_sem, zc0, zc1, bz]) rfl ⟨rfl, by (repeat' (first | exact Below.refl _ _ | (refine Below.alloc ?_ ?_ _) | (refine below_plus ?_ ?_ _ _) | (refine Below.drew ?_) | (refine Below.setCell ?_ ?_ _) | (simp; done) | (simp; omega) | assumption))⟩
      · rw [if_neg hp0] at hgo
        cases hgo
        have hpn : (p.2 != 0) = true := by simp [hp0]
        clear hp0
        go_wp2_with ((go_at_call 76; refine (mul_any _ _ _ _ HP.out).mono ?_; rintro e wq ⟨rfl, hb⟩; obtain ⟨os, d, rfl⟩ := plus_of_below hb; clear hb))
        exact bodyPost_ret (v := .tuple #[bv bz, .int .i64 p.2]) (by simp [results, Try.results62, go_sem, zc0, zc1, bz]) rfl ⟨rfl, by (repeat' (first | exact Below.refl _ _ | (refine Below.alloc ?_ ?_ _) | (refine below_plus ?_ ?_ _ _) | (refine Below.drew ?_) | (refine Below.setCell ?_ ?_ _) | (simp; done) | (simp; omega) | assumption))⟩
    · have hk' : k = cs.length := by omega
      subst hk'
      have hgo := HGO.out
      rw [List.drop_length] at hgo
      cases hgo
      clear HGO
      go_wp2
      exact bodyPost_ret (v := .tuple #[bv v, .int .i64 0]) (by simp [results, Try.results62, go_sem, zc0, zc1]) rfl ⟨rfl, by (repeat' (first | exact Below.refl _ _ | (refine Below.alloc ?_ ?_ _) | (refine below_plus ?_ ?_ _ _) | (refine Below.drew ?_) | (refine Below.setCell ?_ ?_ _) | (simp; done) | (simp; omega) | assumption))⟩
end Go.Proofs.Ytbocjicihamahaa
