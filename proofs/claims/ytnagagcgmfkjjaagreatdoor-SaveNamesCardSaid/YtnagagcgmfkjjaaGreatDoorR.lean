/- The readers of tracers, whirls and numbers, of the given program. -/
import Derived.Test.YtnagagcgmfkjjaaGreatDoorQ
set_option linter.unusedSimpArgs false
set_option linter.unusedVariables false
namespace Go.Proofs.YtnagagcgmfkjjaaGreatDoor
open Go.RowKit
set_option maxRecDepth 100000 in
set_option maxHeartbeats 8000000 in
theorem readW_any (s : ByteArray) (hs : s.size ≤ 70000) (w : World) (V : Vars w) (h40 : 8 ≤ w.heap.size) :
    Calls Tryz.prog 9 #[.string s] w fun e w' => ∃ sv v, e = .returned (.tuple #[sv, v]) ∧ Told w (whirlsR s.data.toList).2.1 (whirlsR s.data.toList).2.2 v w' ∧
      w'.ownsRow w.heap.size 60 2 sv (whirlsR s.data.toList).1.length ((whirlsR s.data.toList).1.flatMap whCells) ∧ Below w.heap.size w w' := by
  have hmf := run_makeFunc
  have hV : Hid (Vars (w.alloc (.cells #[.slice none 0 0] 86))) := hid (V.keep (B := w.heap.size) (S := []) ((Keeps.refl _ _ _).alloc (Nat.le_refl _) _) h40 (by simp))
  obtain ⟨Q, hQ⟩ : ∃ Q, Q = whirlsR s.data.toList := ⟨_, rfl⟩
  rw [← hQ]
  unfold whirlsR at hQ
  have HQ := hid hQ
  clear hQ V
  go_enter Tryz.func9, Tryz.ntmps9
  go_wp2_with fail
  refine (read_any 35 86 60 2 s kWhirls kWhirls kWhirl (whirS s.data.toList) whCells whW (lawW s hs) hs w.heap.size _ hV.out (by decide) (by decide) (by simp only [block_at]) h40).mono ?_
  rintro e wq ⟨v, sv, rfl, hT, hrow, hK⟩
  rw [show readS s.data.toList kWhirls.data.toList kWhirls.data.toList kWhirl.data.toList (whirS s.data.toList) = readW s.data.toList from rfl] at hT hrow
  obtain ⟨R, hR⟩ : ∃ R, R = readW s.data.toList := ⟨_, rfl⟩
  have hro := readW_ok (s := s.data.toList)
  rw [← hR] at hT hrow hro
  have hqv := HQ.out
  rw [← hR] at hqv
  clear hR
  have hbq : Below w.heap.size w wq := Keeps.below (Keeps.trans ((Keeps.refl w.heap.size [] w).alloc (Nat.le_refl _) _) (hK.mono (by simp) (fun k hk h => by simp at h; omega)))
  have hszq := hbq.size
  rcases hT with ⟨hc, rfl⟩ | ⟨hc, g, hg, rfl, hgb⟩
  · obtain ⟨hl1, hl2, -⟩ := hro hc
    rw [size_list] at hl1 hl2
    rw [if_pos hc] at hqv
    obtain ⟨hlb, hown⟩ := hrow hl1
    obtain ⟨sa, scap, rfl, -⟩ := own_form hown
    have l0 := cell_of_block hlb 0
    simp at l0
    haveI : Has wq w.heap.size := ⟨lt_of_block hlb⟩
    have HB := hid hbq
    have OWN := hid hown
    have hlt := lt_of_block hlb
    clear hbq hlb hrow hK hown
    have hck := whirl_check R.1 _ _ wq OWN.out (by omega)
    have HCK := hid hck
    clear hck
    by_cases hz : whirlChk R.1 = 0
    · rw [if_pos hz] at hqv
      have HV := hid hqv
      clear hqv
      rw [hz] at HCK
      go_wp2_with fail
      refine HCK.out.mono ?_
      rintro e w2 ⟨rfl, hb2⟩
      have k0 : w2.cell? ⟨w.heap.size, 0, none⟩ = some (.slice sa R.1.length scap) := ((Keeps.of_below (S := []) hb2).cell (q := ⟨w.heap.size, 0, none⟩) Has.lt (by simp)).trans l0
      have HB2 := hid hb2
      clear hb2
      have OW2 := own_keeps OWN.out (Keeps.of_below (S := []) HB2.out) (Nat.le_refl _) (by simp)
      go_wp2_with fail
      go_ret2
      refine ⟨_, _, rfl, ?_, ?_, HB.out.trans (HB2.out.mono HB.out.size)⟩
      · rw [HV.out]; exact .inl ⟨rfl, rfl⟩
      · rw [HV.out]
        exact own_mono OW2 (by simp)
    · have hz' : (whirlChk R.1 != 0) = true := by simpa using hz
      rw [if_neg hz] at hqv
      have HV := hid hqv
      clear hqv
      go_wp2_with fail
      refine HCK.out.mono ?_
      rintro e w2 ⟨rfl, hb2⟩
      have HB2 := hid hb2
      clear hb2
      go_wp2_with (go_at_call 33; ((with_reducible refine (fault_any _ _ _).mono ?_); rintro e w' ⟨rfl, rfl⟩))
      go_ret2
      refine ⟨_, _, rfl, ?_, ?_, (HB.out.trans (HB2.out.mono HB.out.size)).alloc (Nat.le_trans HB.out.size HB2.out.size) _⟩
      · rw [HV.out]
        exact .inr ⟨hz, w2.heap.size, Nat.le_trans HB.out.size HB2.out.size, rfl, by simp only [block_at]⟩
      · rw [HV.out]; exact own_nil _ _ _ _
  · rw [if_neg hc] at hqv
    have HV := hid hqv
    have HB := hid hbq
    clear hqv hbq hK hrow
    go_wp2_with fail
    go_ret2
    refine ⟨_, _, rfl, ?_, ?_, HB.out⟩
    · rw [HV.out]
      exact .inr ⟨hc, g, by simp at hg; omega, rfl, hgb⟩
    · rw [HV.out]; exact own_nil _ _ _ _
set_option maxRecDepth 100000 in
set_option maxHeartbeats 8000000 in
theorem readT_any (s : ByteArray) (hs : s.size ≤ 70000) (w : World) (V : Vars w) (h40 : 8 ≤ w.heap.size) :
    Calls Tryz.prog 8 #[.string s] w fun e w' => ∃ sv v, e = .returned (.tuple #[sv, v]) ∧ Told w (tracersR s.data.toList).2.1 (tracersR s.data.toList).2.2 v w' ∧
      w'.ownsRow w.heap.size 58 3 sv (tracersR s.data.toList).1.length ((tracersR s.data.toList).1.flatMap trCells) ∧ Below w.heap.size w w' := by
  have hmf := run_makeFunc
  have hV : Hid (Vars (w.alloc (.cells #[.slice none 0 0] 84))) := hid (V.keep (B := w.heap.size) (S := []) ((Keeps.refl _ _ _).alloc (Nat.le_refl _) _) h40 (by simp))
  obtain ⟨Q, hQ⟩ : ∃ Q, Q = tracersR s.data.toList := ⟨_, rfl⟩
  rw [← hQ]
  unfold tracersR at hQ
  have HQ := hid hQ
  clear hQ V
  go_enter Tryz.func8, Tryz.ntmps8
  go_wp2_with fail
  refine (read_any 34 84 58 3 s kTracers kTracers kTracer (tracS s.data.toList) trCells trW (lawT s hs) hs w.heap.size _ hV.out (by decide) (by decide) (by simp only [block_at]) h40).mono ?_
  rintro e wq ⟨v, sv, rfl, hT, hrow, hK⟩
  rw [show readS s.data.toList kTracers.data.toList kTracers.data.toList kTracer.data.toList (tracS s.data.toList) = readT s.data.toList from rfl] at hT hrow
  obtain ⟨R, hR⟩ : ∃ R, R = readT s.data.toList := ⟨_, rfl⟩
  have hro := readT_ok (s := s.data.toList)
  rw [← hR] at hT hrow hro
  have hqv := HQ.out
  rw [← hR] at hqv
  clear hR
  have hbq : Below w.heap.size w wq := Keeps.below (Keeps.trans ((Keeps.refl w.heap.size [] w).alloc (Nat.le_refl _) _) (hK.mono (by simp) (fun k hk h => by simp at h; omega)))
  have hszq := hbq.size
  rcases hT with ⟨hc, rfl⟩ | ⟨hc, g, hg, rfl, hgb⟩
  · obtain ⟨hl1, hl2, -⟩ := hro hc
    rw [size_list] at hl1 hl2
    rw [if_pos hc] at hqv
    obtain ⟨hlb, hown⟩ := hrow hl1
    obtain ⟨sa, scap, rfl, -⟩ := own_form hown
    have l0 := cell_of_block hlb 0
    simp at l0
    haveI : Has wq w.heap.size := ⟨lt_of_block hlb⟩
    have HB := hid hbq
    have OWN := hid hown
    have hlt := lt_of_block hlb
    clear hbq hlb hrow hK hown
    by_cases hz : 4096 < R.1.length
    · rw [if_pos hz] at hqv
      have HV := hid hqv
      clear hqv
      go_wp2_with (go_at_call 33; ((with_reducible refine (fault_any _ _ _).mono ?_); rintro e w' ⟨rfl, rfl⟩))
      go_ret2
      refine ⟨_, _, rfl, ?_, ?_, HB.out.alloc HB.out.size _⟩
      · rw [HV.out]
        exact .inr ⟨by simp, wq.heap.size, HB.out.size, rfl, by simp only [block_at]⟩
      · rw [HV.out]; exact own_nil _ _ _ _
    · rw [if_neg hz] at hqv
      have HV := hid hqv
      clear hqv
      go_wp2_with fail
      go_ret2
      refine ⟨_, _, rfl, ?_, ?_, HB.out⟩
      · rw [HV.out]; exact .inl ⟨rfl, rfl⟩
      · rw [HV.out]
        exact own_mono OWN.out (by simp)
  · rw [if_neg hc] at hqv
    have HV := hid hqv
    have HB := hid hbq
    clear hqv hbq hK hrow
    go_wp2_with fail
    go_ret2
    refine ⟨_, _, rfl, ?_, ?_, HB.out⟩
    · rw [HV.out]
      exact .inr ⟨hc, g, by simp at hg; omega, rfl, hgb⟩
    · rw [HV.out]; exact own_nil _ _ _ _
set_option maxRecDepth 100000 in
set_option maxHeartbeats 8000000 in
theorem readN_any (s : ByteArray) (hs : s.size ≤ 70000) (w : World) :
    Calls Tryz.prog 10 #[.string s] w fun e w' => ∃ v, e = .returned (.tuple #[.complex .f64 (readN s.data.toList).1.1 (readN s.data.toList).1.2, v]) ∧ Told w (readN s.data.toList).2.1 (readN s.data.toList).2.2 v w' ∧ Below w.heap.size w w' := by
  obtain ⟨Q, hQ⟩ : ∃ Q, Q = readN s.data.toList := ⟨_, rfl⟩
  rw [← hQ]
  unfold readN at hQ
  by_cases hlong : 65536 < s.size
  · rw [if_pos (by rw [size_list]; exact hlong)] at hQ
    have HQ := hid hQ
    clear hQ
    go_enter Tryz.func10, Tryz.ntmps10
    go_wp2_with (go_at_call 33; ((with_reducible refine (fault_any _ _ _).mono ?_); rintro e w' ⟨rfl, rfl⟩))
    go_ret2
    refine ⟨_, by rw [HQ.out]; rfl, ?_, Below.alloc (Below.refl _ _) (Nat.le_refl _) _⟩
    rw [HQ.out]
    exact .inr ⟨by simp, w.heap.size, Nat.le_refl _, rfl, by simp only [block_at]⟩
  · rw [if_neg (by rw [size_list]; exact hlong)] at hQ
    simp only [] at hQ
    have HQ := hid hQ
    clear hQ
    go_enter Tryz.func10, Tryz.ntmps10
    go_wp2_with fail
    have r0 : Rd ((w.alloc (.cells #[.string s, .int .i64 0, .int .i64 (-1)] 90)).alloc (.cells #[.complex .f64 0 0] 36)) w.heap.size s 0 (-1) := by
      unfold Rd; simp only [block_alloc', block_at]; rfl
    refine (number_any w.heap.size s 0 (-1) (w.heap.size + 1) 0 (.complex .f64 0 0) _ r0 (Nat.zero_le _) hs (by omega) (by simp [go_sem]) (by simp [go_sem])).mono ?_
    rintro e wq ⟨rfl, hR, hx, hK⟩
    obtain ⟨r, hr⟩ : ∃ r, r = numS s.data.toList (0, -1) := ⟨_, rfl⟩
    have hle := num_le s.data.toList (0, -1) (Nat.zero_le _)
    rw [size_list] at hle
    have hqv := HQ.out
    rw [← hr] at hqv hR hx hle
    clear hr r0
    have hbq : Below w.heap.size w wq := Keeps.below (Keeps.trans (((Keeps.refl w.heap.size [] w).alloc (Nat.le_refl _) _).alloc (by simp) _) (hK.mono (by simp; omega) (fun k hk h => by simp at h; omega)))
    have y1 : wq.heap[w.heap.size + 1]? = some (.cells #[.complex .f64 r.1.1 r.1.2] 36 (0, 0)) := hx.trans (set_of_block (c := #[.complex .f64 0 0]) (by simp only [block_at]) 0 _)
    have y0 := cell_of_block y1 0
    simp at y0
    have q1 := cell_of_block hR 1
    have q2 := cell_of_block hR 2
    simp at q1 q2
    have HR := hid hR
    have HB := hid hbq
    haveI : Has wq (w.heap.size + 1) := ⟨lt_of_block y1⟩
    clear hR hx hK y1 hbq
    by_cases h7 : r.2.2 < 0
    · have h7' : decide (r.2.2 < 0) = true := by simpa using h7
      rw [if_pos h7] at hqv
      by_cases h8 : r.2.1 < s.size
      · have h8' : ((r.2.1 : Int) < (s.size : Int)) := by omega
        rw [if_pos (by rw [size_list]; exact h8)] at hqv
        have HV := hid hqv
        clear hqv
        go_wp2_with (go_at_call 38; ((with_reducible refine (ok_any w.heap.size s r.2.1 r.2.2 _ HR.out).mono ?_); rintro e w' ⟨rfl, rfl⟩))
        refine (wrong_any w.heap.size s r.2.1 r.2.2 r.2.1 _ HR.out).mono ?_
        rintro e w8 ⟨rfl, hR, hK⟩
        rw [if_pos h7] at hR
        have a8 := cell_of_block hR 2
        simp at a8
        have HR8 := hid hR
        have h9 : decide ((r.2.1 : Int) < 0) = false := by simp
        have hszq := HB.out.size
        have HB8 : Hid (Below w.heap.size w w8) := hid (Keeps.below ((Keeps.of_below (S := []) HB.out).trans (hK.mono hszq (fun k hk h => by simp at h; omega))))
        clear hR hK
        go_wp2_with (first | (go_at_call 38; ((with_reducible refine (ok_any w.heap.size s r.2.1 r.2.1 _ HR8.out).mono ?_); rintro e w' ⟨rfl, rfl⟩)) | (go_at_call 33; ((with_reducible refine (fault_any _ _ _).mono ?_); rintro e w' ⟨rfl, rfl⟩)))
        go_ret2
        refine ⟨_, by rw [HV.out]; rfl, ?_, HB8.out.alloc HB8.out.size _⟩
        rw [HV.out]
        exact .inr ⟨by simp, w8.heap.size, HB8.out.size, rfl, by simp only [block_at]⟩
      · have h8' : ¬ ((r.2.1 : Int) < (s.size : Int)) := by omega
        rw [if_neg (by rw [size_list]; exact h8)] at hqv
        have HV := hid hqv
        clear hqv
        go_wp2_with (go_at_call 38; ((with_reducible refine (ok_any w.heap.size s r.2.1 r.2.2 _ HR.out).mono ?_); rintro e w' ⟨rfl, rfl⟩))
        go_ret2
        refine ⟨_, by rw [HV.out]; rfl, ?_, HB.out⟩
        rw [HV.out]
        exact .inl ⟨rfl, rfl⟩
    · have h7' : decide (r.2.2 < 0) = false := by simpa using h7
      rw [if_neg h7] at hqv
      have HV := hid hqv
      clear hqv
      go_wp2_with (first | (go_at_call 38; ((with_reducible refine (ok_any w.heap.size s r.2.1 r.2.2 _ HR.out).mono ?_); rintro e w' ⟨rfl, rfl⟩)) | (go_at_call 33; ((with_reducible refine (fault_any _ _ _).mono ?_); rintro e w' ⟨rfl, rfl⟩)))
      go_ret2
      refine ⟨_, by rw [HV.out]; rfl, ?_, HB.out.alloc HB.out.size _⟩
      rw [HV.out]
      exact .inr ⟨by simp, wq.heap.size, HB.out.size, rfl, by simp only [block_at]⟩
end Go.Proofs.YtnagagcgmfkjjaaGreatDoor
