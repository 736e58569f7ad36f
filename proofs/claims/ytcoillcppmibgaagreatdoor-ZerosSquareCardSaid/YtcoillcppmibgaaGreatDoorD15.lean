/- Radius. The examples' radius. The program is awake. What the statement's condition on a variable gives; arguments opened and shut. What floats are worth: exact steps, lengths. -/
import Derived.Test.YtcoillcppmibgaaGreatDoorD14
import Derived.Test.YtcoillcppmibgaaGreatDoorRows
import Derived.ProofKit
import Derived.ChangeSame
import Derived.ChangeVars
import Derived.JoinedOf
import Derived.RowKit
import Derived.RowKitTokens
import Derived.LaidLaws
import Derived.LaidHandle
import Derived.Stop.Joined
import Derived.Lay
import Derived.Lib.LaidTab
import Derived.OpenShut
import Derived.ChangeMaps5
set_option linter.unusedSimpArgs false
set_option linter.unusedVariables false
namespace Go.Proofs.YtcoillcppmibgaaGreatDoor
section
open Go.RowKit
namespace Big
theorem bSetFracC {W : World} {gz gx gy : Nat} {x : Int} {d : Nat} [hz : Blk' 76 W gz] [hx : InC W gx x] [hy : InC W gy (d : Int)] [vr : VrC W] (h0 : d ≠ 0) (h1 : (words x.natAbs).length ≤ 137438953472) (h2 : (words d).length ≤ 137438953472) :
    Calls Tryz.prog 45 #[.pointer (some ⟨gz, 0, none⟩), .pointer (some ⟨gx, 0, none⟩), .pointer (some ⟨gy, 0, none⟩)] W fun e w' => e = .returned (.pointer (some ⟨gz, 0, none⟩)) ∧ RaC 76 w' gz (mkRat x d) ∧ Kp1 W gz w' := by
  obtain ⟨z0, z1, z2, bz⟩ := hz.out
  refine (bsetfrac gz gx gy z0 z1 z2 x d W bz hx.out.ia hy.out.ia h1 h2 h0 vr.out).mono ?_
  rintro e w' ⟨rfl, h1, h2⟩
  exact ⟨rfl, ⟨h1⟩, ⟨h2⟩⟩
set_option synthInstance.maxHeartbeats 2000000 in
set_option synthInstance.maxSize 100000 in
set_option maxRecDepth 100000 in
set_option maxHeartbeats 16000000 in
theorem Radius_any {w : World} {g cap n : Nat} (l : List Pl) (z : Pl) (hg : g < w.heap.size) (hc : reads w g 0 l) (hok : polyOk l = true) (hl : l.length = n + 1) (hn : 0 < n) (hz : okP z = true) [vr : VrB w]
    (A O : Ex) (C T V : Nat → Ex) (hA : ∀ w, Calls Tryz.prog 36 #[.complex .f64 z.1 z.2] w fun e w' => ∃ k l, e = .returned (.agg #[.pointer (some ⟨k, 0, none⟩), .pointer (some ⟨l, 0, none⟩), .int .i64 A.2.2]) ∧ InC w' k A.1 ∧ InC w' l A.2.1 ∧ Kp0 w w' ∧ UpW w k ∧ UpW w l ∧ NeN k l) (hO : ∀ w, Calls Tryz.prog 36 #[.complex .f64 0 0] w fun e w' => ∃ k l, e = .returned (.agg #[.pointer (some ⟨k, 0, none⟩), .pointer (some ⟨l, 0, none⟩), .int .i64 O.2.2]) ∧ InC w' k O.1 ∧ InC w' l O.2.1 ∧ Kp0 w w' ∧ UpW w k ∧ UpW w l ∧ NeN k l) (hC : ∀ j, j ≤ n → ∀ w, Calls Tryz.prog 36 #[.complex .f64 (l.getD (n - j) (0, 0)).1 (l.getD (n - j) (0, 0)).2] w fun e w' => ∃ k l, e = .returned (.agg #[.pointer (some ⟨k, 0, none⟩), .pointer (some ⟨l, 0, none⟩), .int .i64 (C j).2.2]) ∧ InC w' k (C j).1 ∧ InC w' l (C j).2.1 ∧ Kp0 w w' ∧ UpW w k ∧ UpW w l ∧ NeN k l)
    (hT0 : T 0 = O) (hV0 : V 0 = O) (hT : ∀ k, k ≤ n → T (k + 1) = exP (exT (T k) A) (V k)) (hV : ∀ k, k ≤ n → V (k + 1) = exP (exT (V k) A) (C k))
    (sA : exOk A = true) (sC : ∀ k, k ≤ n → exOk (C k) = true) (sT : ∀ k, k ≤ n + 1 → exOk (T k) = true) (sV : ∀ k, k ≤ n + 1 → exOk (V k) = true) (sTA : ∀ k, k ≤ n → exOk (exT (T k) A) = true) (sVA : ∀ k, k ≤ n → exOk (exT (V k) A) = true)
    (dT : ∀ k, k ≤ n → (V k).2.2 ≤ (exT (T k) A).2.2) (dV : ∀ k, k ≤ n → (C k).2.2 ≤ (exT (V k) A).2.2)
    {P Q : Int} (hP : P = (V (n + 1)).1 * (V (n + 1)).1 + (V (n + 1)).2.1 * (V (n + 1)).2.1) (hQ : Q = (T (n + 1)).1 * (T (n + 1)).1 + (T (n + 1)).2.1 * (T (n + 1)).2.1) (hP0 : P.sign ≠ 0) {res : Nat} {err : Int}
    (hend : (Q.sign = 0 ∧ res = 0 ∧ err = 6) ∨ (Q.sign ≠ 0 ∧ err = 0 ∧ ∃ QN : Nat, Q * 2 ^ (2 * (V (n + 1)).2.2) = QN ∧ QN ≠ 0 ∧ ((P * ((n : Int) * n)) * 2 ^ (2 * (T (n + 1)).2.2)).natAbs < 4294967296 ^ 2000 ∧ QN < 4294967296 ^ 2000 ∧ ∃ m, enB (mkRat ((P * ((n : Int) * n)) * 2 ^ (2 * (T (n + 1)).2.2)) QN) 9218868437227405311 = true ∧ upB (mkRat ((P * ((n : Int) * n)) * 2 ^ (2 * (T (n + 1)).2.2)) QN) m 0 9218868437227405311 = some res)) :
    Calls Tryz.prog 12 #[.slice (some ⟨g, 0, none⟩) (n + 1) cap, .complex .f64 z.1 z.2] w fun e w' => e = .returned (.tuple #[.float .f64 res, .int .i64 err]) ∧ Kp0 w w' := by
  have hnot := run_not
  have hn64 : n ≤ 64 := by have := (polyOk_out hok).2.1; omega
  have CK := hid (polycheck_ok l g 0 cap w hok hc)
  rw [hl] at CK
  have pz := fun w => zplace_any z.1 z.2 w
  rw [show okP (z.1, z.2) = true from hz] at pz
  have HC := hid hC
  have HCELL := hid (show ∀ (W : World), Below w.heap.size w W → ∀ i, i ≤ n → W.cell? ⟨g, i, none⟩ = some (.complex .f64 (l.getD i (0, 0)).1 (l.getD i (0, 0)).2) from fun W hW i hi => by
    have h1 := hc i (by omega)
    rw [Nat.zero_add] at h1
    exact (World.cell?_of_block (w := w) (hW.block g hg)).trans h1)
  have HT := hid hT
  have HV := hid hV
  have HS := hid (And.intro sA (And.intro sC (And.intro sT (And.intro sV (And.intro sTA sVA)))))
  have HD := hid (And.intro dT dV)
  have HP := hid hP
  have HQ := hid hQ
  have HP0 := hid hP0
  have HEND := hid hend
  have H00 := hid (And.intro hT0 hV0)
  have HN := hid hn
  have HGW := hid hg
  have nz : ¬ ((n : Int) = 0) := by omega
  have nz2 : ((n : Int) == 0) = false := beq_eq_false_iff_ne.2 (by omega)
  haveI : Has w g := ⟨hg⟩
  clear hC hc hT hV sA sC sT sV sTA sVA dT dV hP hQ hP0 hend hT0 hV0 hok hl hz hn
  go_enter Tryz.func12, Tryz.ntmps12
  go_wp2_with (first | (go_at_call 19; (with_reducible refine Calls.mono CK.out ?_); rintro e wc ⟨rfl, rfl⟩) | (go_at_call 32; (with_reducible refine Calls.mono (pz _) ?_); rintro e wc ⟨rfl, rfl⟩) | (go_at_call 36; (with_reducible refine Calls.mono (hA _) ?_); rintro e wa ⟨ap, aq, rfl, _, _, _, _, _, _⟩) | (go_at_call 36; (with_reducible refine Calls.mono (hO _) ?_); rintro e wo ⟨op, oq, rfl, _, _, _, _, _, _⟩))
  go_loopw [11] (fun i wx => ∃ (k ti tj vi vj : Nat), k ≤ n + 1 ∧ i = .int .i64 ((n : Int) - k) ∧ Gr w wx ∧ BkC wx wo.heap.size [.pointer (some ⟨ap, 0, none⟩), .pointer (some ⟨aq, 0, none⟩), .int .i64 A.2.2] 60 ∧ BkC wx (wo.heap.size + 1) [.pointer (some ⟨vi, 0, none⟩), .pointer (some ⟨vj, 0, none⟩), .int .i64 (V k).2.2] 60 ∧ BkC wx (wo.heap.size + 1 + 1) [.pointer (some ⟨ti, 0, none⟩), .pointer (some ⟨tj, 0, none⟩), .int .i64 (T k).2.2] 60 ∧ InC wx ap A.1 ∧ InC wx aq A.2.1 ∧ InC wx vi (V k).1 ∧ InC wx vj (V k).2.1 ∧ InC wx ti (T k).1 ∧ InC wx tj (T k).2.1) (fun i _ => (intOf i + 1).toNat)
  case atStart => exact ⟨0, _, _, _, _, Nat.zero_le _, by rw [show ((n : Int) - ((0 : Nat) : Int)) = (n : Int) by omega], inferInstance, inferInstance, by rw [H00.out.2]; infer_instance, by rw [H00.out.1]; infer_instance, inferInstance, inferInstance, by rw [H00.out.2]; infer_instance, by rw [H00.out.2]; infer_instance, by rw [H00.out.1]; infer_instance, by rw [H00.out.1]; infer_instance⟩
  case round =>
    obtain ⟨k, ti, tj, vi, vj, hk, rfl, ig, b8, b9, b10, iap, iaq, ivi, ivj, iti, itj⟩ := hrel
    have HK := hid hk
    by_cases hlt : k ≤ n
    · obtain ⟨idx, hidx⟩ : ∃ idx : Nat, idx = n - k := ⟨_, rfl⟩
      have ei : (n : Int) - (k : Int) = (idx : Int) := by omega
      have e0 : (0 : Int) ≤ (idx : Int) := by omega
      have e1 : (idx : Int) < (n : Int) + 1 := by omega
      have e2 : idx ≤ n := by omega
      have HIDX := hid hidx
      have HLT := hid hlt
      have HE := hid ei
      obtain ⟨cc, hcc⟩ : ∃ cc, cc = l.getD idx (0, 0) := ⟨_, rfl⟩
      have HCC := hid (fun w => by
        have := HC.out k hlt w
        rw [← hidx, ← hcc] at this
        exact this)
      have HCE := hid (fun (W : World) (hW : Below w.heap.size w W) => by
        have := HCELL.out W hW idx e2
        rw [← hcc] at this
        exact this)
      obtain ⟨q1, q2, q3, q4, q5, q6⟩ := HS.out
      have s1 := hid (And.intro (q3 k (by omega)) (And.intro (q4 k (by omega)) (And.intro (q5 k hlt) (And.intro (q6 k hlt) (And.intro (q2 k hlt) q1)))))
      have s2 := hid (And.intro (HD.out.1 k hlt) (HD.out.2 k hlt))
      have HTk := hid (HT.out k hlt)
      have HVk := hid (HV.out k hlt)
      rw [ei]
      clear hcc hidx hlt hk q1 q2 q3 q4 q5 q6 ei
      go_upto_region 13 with fail
      go_cut [] from 38 to 42 (fun wx => ∃ ti tj : Nat, Gr w wx ∧ BkC wx wo.heap.size [.pointer (some ⟨ap, 0, none⟩), .pointer (some ⟨aq, 0, none⟩), .int .i64 A.2.2] 60 ∧ BkC wx (wo.heap.size + 1) [.pointer (some ⟨vi, 0, none⟩), .pointer (some ⟨vj, 0, none⟩), .int .i64 (V k).2.2] 60 ∧ BkC wx (wo.heap.size + 1 + 1) [.pointer (some ⟨ti, 0, none⟩), .pointer (some ⟨tj, 0, none⟩), .int .i64 (T (k + 1)).2.2] 60 ∧ InC wx ap A.1 ∧ InC wx aq A.2.1 ∧ InC wx vi (V k).1 ∧ InC wx vj (V k).2.1 ∧ InC wx ti (T (k + 1)).1 ∧ InC wx tj (T (k + 1)).2.1)
      case first =>
        refine wp_region_late (S := (fun W => W.cell? ⟨wo.heap.size + 1 + 1, 0, none⟩ = some (.pointer (some ⟨ti, 0, none⟩)) ∧ W.cell? ⟨wo.heap.size + 1 + 1, 1, none⟩ = some (.pointer (some ⟨tj, 0, none⟩)) ∧ W.cell? ⟨wo.heap.size + 1 + 1, 2, none⟩ = some (.int .i64 (T k).2.2) ∧ W.cell? ⟨wo.heap.size, 0, none⟩ = some (.pointer (some ⟨ap, 0, none⟩)) ∧ W.cell? ⟨wo.heap.size, 1, none⟩ = some (.pointer (some ⟨aq, 0, none⟩)) ∧ W.cell? ⟨wo.heap.size, 2, none⟩ = some (.int .i64 A.2.2) ∧ W.cell? ⟨wo.heap.size + 1, 0, none⟩ = some (.pointer (some ⟨vi, 0, none⟩)) ∧ W.cell? ⟨wo.heap.size + 1, 1, none⟩ = some (.pointer (some ⟨vj, 0, none⟩)) ∧ W.cell? ⟨wo.heap.size + 1, 2, none⟩ = some (.int .i64 (V k).2.2))) 5 (by kernel_rfl) ?_ (fun hHeld => ?_)
        · (refine ⟨?_, ?_, ?_, ?_, ?_, ?_, ?_, ?_, ?_⟩ <;> (first | exact Bk.cell BkC.out rfl | (simp [go_sem]; done)))
        refine wpAnyL_t 0 (v := ?_) rfl (Or.inl ⟨by rfl, ?_⟩) ?_
        rotate_left
        · intro w hSw
          (try dsimp only at hSw)
          go_simp
          all_goals (with_reducible rfl)
        try simp only [Act.put, List.setIfInBounds_toArray, List.set_cons_zero, List.set_cons_succ]
        refine wpAnyL_t 1 (v := ?_) rfl (Or.inl ⟨by rfl, ?_⟩) ?_
        rotate_left
        · intro w hSw
          (try dsimp only at hSw)
          go_simp
          all_goals (with_reducible rfl)
        try simp only [Act.put, List.setIfInBounds_toArray, List.set_cons_zero, List.set_cons_succ]
        refine wpAnyL_t 3 (v := ?_) rfl (Or.inl ⟨by rfl, ?_⟩) ?_
        rotate_left
        · intro w hSw
          (try dsimp only at hSw)
          go_simp
          all_goals (with_reducible rfl)
        try simp only [Act.put, List.setIfInBounds_toArray, List.set_cons_zero, List.set_cons_succ]
        refine wpAnyL_ready (rs := [2]) (by kernel_rfl) (by simp) ?_
        refine AllReadyL.early rfl (fun K hK => ?_) AllReadyL.nil
        go_simp
        go_at_call 37
        (with_reducible refine Calls.mono (exTimesE s1.out.1 s1.out.2.2.2.2.2) ?_)
        rintro e wc ⟨xp, xq, rfl, _, _, _, _, _, _⟩
        refine hK.out _ _ ?_ (fun hHeld => ?_)
        · (refine ⟨?_, ?_, ?_, ?_, ?_, ?_, ?_, ?_, ?_⟩ <;> (first | exact Bk.cell BkC.out rfl | (simp [go_sem]; done)))
        clear hK K
        try simp only [Act.put, List.setIfInBounds_toArray, List.set_cons_zero, List.set_cons_succ]
        refine wpAnyL_ready (rs := [4]) (by kernel_rfl) (by simp) ?_
        refine AllReadyL.early rfl (fun K hK => ?_) AllReadyL.nil
        go_simp
        go_at_call 38
        (with_reducible refine Calls.mono (exPlusE s1.out.2.2.1 s1.out.2.1 s2.out.1) ?_)
        rintro e wc ⟨yp, yq, rfl, _, _, _, _, _, _⟩
        have f0 := (inferInstance : BkC wc (wo.heap.size + 1 + 1) _ _).out.free 0
        have f1 := (inferInstance : BkC wc (wo.heap.size + 1 + 1) _ _).out.free 1
        have f2 := (inferInstance : BkC wc (wo.heap.size + 1 + 1) _ _).out.free 2
        refine hK.out _ _ ?_ (fun hHeld => ?_)
        · (refine ⟨?_, ?_, ?_, ?_, ?_, ?_, ?_, ?_, ?_⟩ <;> (first | exact Bk.cell BkC.out rfl | (simp [go_sem]; done)))
        clear hK K
        try simp only [Act.put, List.setIfInBounds_toArray, List.set_cons_zero, List.set_cons_succ]
        refine wpAnyL_ready (rs := [5]) (by kernel_rfl) (by simp) ?_
        refine AllReadyL.late rfl (by kernel_rfl) (fun K hK => ?_) AllReadyL.nil
        go_simp
        refine hK.out _ _ ?_
        clear hK K
        try simp only [Act.put, List.setIfInBounds_toArray, List.set_cons_zero, List.set_cons_succ]
        refine wpAnyL_done (by kernel_rfl) ?_ _
        have hG := hid (inferInstance : Gr w wc).out
        go_wp2_with fail
        go_meet
        rw [HTk.out]
        exact ⟨_, _, inferInstance, inferInstance, inferInstance, inferInstance, inferInstance, inferInstance, inferInstance, inferInstance, inferInstance, inferInstance⟩
      case rest =>
        obtain ⟨ti, tj, ig, b8, b9, b10, iap, iaq, ivi, ivj, iti, itj⟩ := hcut
        have hcell := HCE.out wc ig.out
        go_upto_region 14 with fail
        refine wp_region_late (S := (fun W => W.cell? ⟨wo.heap.size + 1, 0, none⟩ = some (.pointer (some ⟨vi, 0, none⟩)) ∧ W.cell? ⟨wo.heap.size + 1, 1, none⟩ = some (.pointer (some ⟨vj, 0, none⟩)) ∧ W.cell? ⟨wo.heap.size + 1, 2, none⟩ = some (.int .i64 (V k).2.2) ∧ W.cell? ⟨wo.heap.size, 0, none⟩ = some (.pointer (some ⟨ap, 0, none⟩)) ∧ W.cell? ⟨wo.heap.size, 1, none⟩ = some (.pointer (some ⟨aq, 0, none⟩)) ∧ W.cell? ⟨wo.heap.size, 2, none⟩ = some (.int .i64 A.2.2) ∧ W.cell? ⟨g, idx, none⟩ = some (.complex .f64 cc.1 cc.2))) 9 (by kernel_rfl) ?_ (fun hHeld => ?_)
        · (refine ⟨?_, ?_, ?_, ?_, ?_, ?_, ?_⟩ <;> (first | exact Bk.cell BkC.out rfl | exact HCE.out _ Gr.out | (simp [go_sem]; done)))
        refine wpAnyL_p 3 (v := ?_) rfl (Or.inl ⟨by rfl, ?_⟩) ?_
        rotate_left
        · intro w hSw
          (try dsimp only at hSw)
          go_simp
          all_goals (with_reducible rfl)
        try simp only [Act.put, List.setIfInBounds_toArray, List.set_cons_zero, List.set_cons_succ]
        refine wpAnyL_p 4 (v := ?_) rfl (Or.inl ⟨by rfl, ?_⟩) ?_
        rotate_left
        · intro w hSw
          (try dsimp only at hSw)
          go_simp
          all_goals (with_reducible rfl)
        try simp only [Act.put, List.setIfInBounds_toArray, List.set_cons_zero, List.set_cons_succ]
        refine wpAnyL_p 5 (v := ?_) rfl (Or.inl ⟨by rfl, ?_⟩) ?_
        rotate_left
        · intro w hSw
          (try dsimp only at hSw)
          go_simp
          all_goals (with_reducible rfl)
        try simp only [Act.put, List.setIfInBounds_toArray, List.set_cons_zero, List.set_cons_succ]
        refine wpAnyL_t 0 (v := ?_) rfl (Or.inl ⟨by rfl, ?_⟩) ?_
        rotate_left
        · intro w hSw
          (try dsimp only at hSw)
          go_simp
          all_goals (with_reducible rfl)
        try simp only [Act.put, List.setIfInBounds_toArray, List.set_cons_zero, List.set_cons_succ]
        refine wpAnyL_t 1 (v := ?_) rfl (Or.inl ⟨by rfl, ?_⟩) ?_
        rotate_left
        · intro w hSw
          (try dsimp only at hSw)
          go_simp
          all_goals (with_reducible rfl)
        try simp only [Act.put, List.setIfInBounds_toArray, List.set_cons_zero, List.set_cons_succ]
        refine wpAnyL_t 6 (v := ?_) rfl (Or.inl ⟨by rfl, ?_⟩) ?_
        rotate_left
        · intro w hSw
          (try dsimp only at hSw)
          go_simp
          all_goals (with_reducible rfl)
        try simp only [Act.put, List.setIfInBounds_toArray, List.set_cons_zero, List.set_cons_succ]
        refine wpAnyL_ready (rs := [2]) (by kernel_rfl) (by simp) ?_
        refine AllReadyL.early rfl (fun K hK => ?_) AllReadyL.nil
        go_simp
        go_at_call 37
        (with_reducible refine Calls.mono (exTimesE s1.out.2.1 s1.out.2.2.2.2.2) ?_)
        rintro e wc ⟨xp, xq, rfl, _, _, _, _, _, _⟩
        refine hK.out _ _ ?_ (fun hHeld => ?_)
        · (refine ⟨?_, ?_, ?_, ?_, ?_, ?_, ?_⟩ <;> (first | exact Bk.cell BkC.out rfl | exact HCE.out _ Gr.out | (simp [go_sem]; done)))
        clear hK K
        try simp only [Act.put, List.setIfInBounds_toArray, List.set_cons_zero, List.set_cons_succ]
        refine wpAnyL_ready (rs := [7]) (by kernel_rfl) (by simp) ?_
        refine AllReadyL.early rfl (fun K hK => ?_) AllReadyL.nil
        go_simp
        go_at_call 36
        (with_reducible refine Calls.mono (HCC.out _) ?_)
        rintro e wc ⟨cp, cq, rfl, _, _, _, _, _, _⟩
        refine hK.out _ _ ?_ (fun hHeld => ?_)
        · (refine ⟨?_, ?_, ?_, ?_, ?_, ?_, ?_⟩ <;> (first | exact Bk.cell BkC.out rfl | exact HCE.out _ Gr.out | (simp [go_sem]; done)))
        clear hK K
        try simp only [Act.put, List.setIfInBounds_toArray, List.set_cons_zero, List.set_cons_succ]
        refine wpAnyL_ready (rs := [8]) (by kernel_rfl) (by simp) ?_
        refine AllReadyL.early rfl (fun K hK => ?_) AllReadyL.nil
        go_simp
        go_at_call 38
        (with_reducible refine Calls.mono (exPlusE s1.out.2.2.2.1 s1.out.2.2.2.2.1 s2.out.2) ?_)
        rintro e wc ⟨yp, yq, rfl, _, _, _, _, _, _⟩
        have f0 := (inferInstance : BkC wc (wo.heap.size + 1) _ _).out.free 0
        have f1 := (inferInstance : BkC wc (wo.heap.size + 1) _ _).out.free 1
        have f2 := (inferInstance : BkC wc (wo.heap.size + 1) _ _).out.free 2
        refine hK.out _ _ ?_ (fun hHeld => ?_)
        · (refine ⟨?_, ?_, ?_, ?_, ?_, ?_, ?_⟩ <;> (first | exact Bk.cell BkC.out rfl | exact HCE.out _ Gr.out | (simp [go_sem]; done)))
        clear hK K
        try simp only [Act.put, List.setIfInBounds_toArray, List.set_cons_zero, List.set_cons_succ]
        refine wpAnyL_ready (rs := [9]) (by kernel_rfl) (by simp) ?_
        refine AllReadyL.late rfl (by kernel_rfl) (fun K hK => ?_) AllReadyL.nil
        go_simp
        refine hK.out _ _ ?_
        clear hK K
        try simp only [Act.put, List.setIfInBounds_toArray, List.set_cons_zero, List.set_cons_succ]
        refine wpAnyL_done (by kernel_rfl) ?_ _
        go_wp2_with fail
        case roundEnd =>
          refine ⟨⟨k + 1, ti, tj, yp, yq, Nat.succ_le_succ HLT.out, ?_, inferInstance, inferInstance, ?_, inferInstance, inferInstance, inferInstance, ?_, ?_, inferInstance, inferInstance⟩, ?_⟩
          · exact congrArg (Value.int .i64) (by have := HE.out; omega)
          · rw [HVk.out]; infer_instance
          · rw [HVk.out]; infer_instance
          · rw [HVk.out]; infer_instance
          · simp only [intOf]; omega
    · obtain rfl : k = n + 1 := by omega
      clear hlt hk HK
      rw [show ((n : Int) - ((n + 1 : Nat) : Int)) = -1 by omega]
      obtain ⟨q1, q2, q3, q4, q5, q6⟩ := HS.out
      have sv := q4 (n + 1) (Nat.le_refl _)
      have st := q3 (n + 1) (Nat.le_refl _)
      clear q1 q2 q3 q4 q5 q6
      have SV := hid sv
      have ST := hid st
      clear sv st
      haveI h9 : Has wr (wo.heap.size + 1) := ⟨b9.out.lt⟩
      haveI h10 : Has wr (wo.heap.size + 1 + 1) := ⟨b10.out.lt⟩
      go_upto_region 15 with fail
      go_cut [12, 13] from 52 to 55 (fun s12 s13 wx => ∃ p q, s12 = .pointer (some ⟨p, 0, none⟩) ∧ s13 = .pointer (some ⟨q, 0, none⟩) ∧ InC wx p P ∧ InC wx q Q ∧ Gr w wx ∧ BkC wx (wo.heap.size + 1) [.pointer (some ⟨vi, 0, none⟩), .pointer (some ⟨vj, 0, none⟩), .int .i64 (V (n + 1)).2.2] 60 ∧ BkC wx (wo.heap.size + 1 + 1) [.pointer (some ⟨ti, 0, none⟩), .pointer (some ⟨tj, 0, none⟩), .int .i64 (T (n + 1)).2.2] 60 ∧ NeN p q ∧ NeN q p ∧ UpW w p ∧ UpW w q ∧ NeN (wo.heap.size + 1) p ∧ NeN (wo.heap.size + 1) q ∧ NeN (wo.heap.size + 1 + 1) p ∧ NeN (wo.heap.size + 1 + 1) q)
      case first =>
        go_region_held3 (fun W => W.cell? ⟨wo.heap.size + 1, 0, none⟩ = some (.pointer (some ⟨vi, 0, none⟩)) ∧ W.cell? ⟨wo.heap.size + 1, 1, none⟩ = some (.pointer (some ⟨vj, 0, none⟩)) ∧ W.cell? ⟨wo.heap.size + 1, 2, none⟩ = some (.int .i64 (V (n + 1)).2.2) ∧ W.cell? ⟨wo.heap.size + 1 + 1, 0, none⟩ = some (.pointer (some ⟨ti, 0, none⟩)) ∧ W.cell? ⟨wo.heap.size + 1 + 1, 1, none⟩ = some (.pointer (some ⟨tj, 0, none⟩)) ∧ W.cell? ⟨wo.heap.size + 1 + 1, 2, none⟩ = some (.int .i64 (T (n + 1)).2.2)) (refine ⟨?_, ?_, ?_, ?_, ?_, ?_⟩ <;> (first | exact Bk.cell BkC.out rfl | (simp [go_sem]; done))) (first | (go_at_call 39; (with_reducible refine Calls.mono (exSquareE SV.out) ?_); rintro e wc ⟨p1, rfl, _, _, _⟩) | (go_at_call 39; (with_reducible refine Calls.mono (exSquareE ST.out) ?_); rintro e wc ⟨p2, rfl, _, _, _⟩))
        all_goals (go_wp2_with fail; go_meet; refine ⟨p1, p2, rfl, rfl, ?_, ?_, inferInstance, inferInstance, inferInstance, inferInstance, inferInstance, ⟨Up.out⟩, ⟨Up.out⟩, inferInstance, inferInstance, inferInstance, inferInstance⟩; (focus (rw [HP.out]; infer_instance)); rw [HQ.out]; infer_instance)
      case rest =>
        obtain ⟨p, q, rfl, rfl, ipp, iqq, ig2, c9, c10, n1, n2, u1, u2, n3, n4, n5, n6⟩ := hcut
        have ps : (P.sign == 0) = false := beq_eq_false_iff_ne.2 HP0.out
        have ps2 : ¬ P.sign = 0 := HP0.out
        rcases HEND.out with ⟨hq0, rfl, rfl⟩ | ⟨hq0, rfl, QN, hQN, hQ0, hX, hQs, m, hm1, hm2⟩
        · have qs : (Q.sign == 0) = true := beq_iff_eq.2 hq0
          go_wp2_with (go_at_call 40; (with_reducible refine Calls.mono biSignC ?_); rintro e wc ⟨rfl, rfl⟩)
          go_ret2
          exact ⟨rfl, ⟨Gr.out⟩⟩
        · have qs : (Q.sign == 0) = false := beq_eq_false_iff_ne.2 hq0
          obtain ⟨v1, v2, v3⟩ := exOk_out SV.out
          obtain ⟨t1, t2, t3⟩ := exOk_out ST.out
          haveI sp : SmI P 5000 := by rw [HP.out]; exact smI_le inferInstance (by decide)
          haveI sq : SmI Q 5000 := by rw [HQ.out]; exact smI_le inferInstance (by decide)
          obtain ⟨nn, hnn⟩ : ∃ nn : Nat, nn = n * n := ⟨_, rfl⟩
          have hnn2 : (n : Int) * (n : Int) = (nn : Int) := by rw [hnn]; exact (Int.natCast_mul n n).symm
          have hnn3 : nn ≤ 4096 := by rw [hnn]; exact Nat.mul_le_mul hn64 hn64
          haveI sn : SmI (nn : Int) 1 := ⟨words_len_le (by show nn < _; omega)⟩
          rw [hnn2] at hX hm1 hm2
          generalize hTd : (T (n + 1)).2.2 = td at *
          generalize hVd : (V (n + 1)).2.2 = vd at *
          obtain ⟨kt, hkt⟩ : ∃ kt, kt = 2 * td := ⟨_, rfl⟩
          obtain ⟨kv, hkv⟩ : ∃ kv, kv = 2 * vd := ⟨_, rfl⟩
          have hkt2 : (2 : Int) * (td : Int) = (kt : Int) := by omega
          have hkv2 : (2 : Int) * (vd : Int) = (kv : Int) := by omega
          rw [← hkt] at hX hm1 hm2
          rw [← hkv] at hQN
          have lkt : kt ≤ 1073741824 := by omega
          have lkv : kv ≤ 1073741824 := by omega
          have zkt : (0 : Int) ≤ (kt : Int) := by omega
          have zkv : (0 : Int) ≤ (kv : Int) := by omega
          have zkt2 : (kt : Int) < 9223372036854775808 := by omega
          have zkv2 : (kv : Int) < 9223372036854775808 := by omega
          have znn1 : -9223372036854775808 ≤ (nn : Int) := by omega
          have znn2 : (nn : Int) < 9223372036854775808 := by omega
          obtain ⟨X, hXe⟩ : ∃ X, X = (P * (nn : Int)) * 2 ^ kt := ⟨_, rfl⟩
          rw [← hXe] at hX hm1 hm2
          have HX := hid hXe
          have HQN := hid hQN
          haveI sr : SmC (mkRat X QN) 2000 := ⟨Sm.mk hQ0 (words_len_le hX) (words_len_le hQs)⟩
          have HM := hid (And.intro hm1 hm2)
          have HSZ := hid (And.intro hQ0 (And.intro (words_len_le hX) (words_len_le hQs)))
          have KU := hid (fun (W : World) (k : Nat) (hW : Below w.heap.size w W) (hR : RaC 76 W k (mkRat X QN)) => upwardC (w := W) (g := k) (L := 2000) (n := m) (res := res) (by decide) (vr := ⟨vr.out.below hW⟩) hm1 hm2)
          clear hnn hkt hkv hXe hX hm1 hm2 hQs hQN v1 v2 v3 t1 t2 t3 hnn3 hTd hVd
          go_upto_region 20 with (go_at_call 40; (with_reducible refine Calls.mono biSignC ?_); rintro e wc ⟨rfl, rfl⟩)
          go_upto_region 21 with (first | (go_at_call 42; (with_reducible refine Calls.mono (bNewC znn1 znn2) ?_); rintro e wc ⟨kn, rfl, _, _, _⟩) | (go_at_call 41; (with_reducible refine Calls.mono (biMulS (by decide) (by decide)) ?_); rintro e wc ⟨rfl, _, _⟩))
          have hcd := (inferInstance : BkC wc (wo.heap.size + 1 + 1) _ _).out.cell (i := 2) rfl
          clear ps ps2 qs hq0 hnn2 nz nz2 znn1 znn2
          go_upto_region 22 with (go_at_call 43; (with_reducible refine Calls.mono (biLshC (k := kt) (by decide) lkt) ?_); rintro e wc ⟨rfl, _, _⟩)
          haveI ix : InC wc p X := by rw [HX.out]; infer_instance
          have hce := (inferInstance : BkC wc (wo.heap.size + 1) _ _).out.cell (i := 2) rfl
          clear hcd lkt hkt2 zkt zkt2
          go_upto_region 23 with (go_at_call 43; (with_reducible refine Calls.mono (biLshC (k := kv) (by decide) lkv) ?_); rintro e wc ⟨rfl, _, _⟩)
          haveI iq : InC wc q (QN : Int) := by rw [← HQN.out]; infer_instance
          clear hce lkv hkv2 zkv zkv2
          have KF := hid (fun (W : World) (hW : Below w.heap.size w W) (k : Nat) (hk : Blk' 76 W k) (h1 : InC W p X) (h2 : InC W q (QN : Int)) => bSetFracC (W := W) (gz := k) (gx := p) (gy := q) (x := X) (d := QN) (vr := ⟨vr.out.below hW⟩) HSZ.out.1 (Nat.le_trans HSZ.out.2.1 (by decide)) (Nat.le_trans HSZ.out.2.2 (by decide)))
          go_wp2_with (first | (go_at_call 45; (with_reducible refine Calls.mono (KF.out _ Gr.out _ inferInstance inferInstance inferInstance) ?_); rintro e wc ⟨rfl, _, _⟩) | (go_at_call 44; (with_reducible refine Calls.mono (KU.out _ _ Gr.out inferInstance) ?_); rintro e wc ⟨rfl, _⟩))
          go_ret2
          exact ⟨rfl, ⟨Gr.out⟩⟩
end Big
end
section
open Go.RowKit
namespace Big
theorem one0_cv (w : World) : (convert 35 2 (.float .f64 0)).run Tryz.prog w = .ok (.int .i64 (0)) w := by kernel_rfl
theorem one0 (w : World) : Calls Tryz.prog 76 #[.float .f64 0] w fun e w' => ∃ k, e = .returned (.tuple #[.pointer (some ⟨k, 0, none⟩), .int .i64 53]) ∧ InC w' k (0) ∧ Kp0 w w' ∧ UpW w k :=
  oneC (v := 0) (m := 0) (r := 0) (e := 0) (A := 53) (N := 0) (by decide +kernel) (by decide +kernel) one0_cv (by decide) (by decide) (by decide) (by decide) (by decide) w
theorem one1_cv (w : World) : (convert 35 2 (.float .f64 4841369599423283200)).run Tryz.prog w = .ok (.int .i64 (4503599627370496)) w := by kernel_rfl
theorem one1 (w : World) : Calls Tryz.prog 76 #[.float .f64 4607182418800017408] w fun e w' => ∃ k, e = .returned (.tuple #[.pointer (some ⟨k, 0, none⟩), .int .i64 52]) ∧ InC w' k (4503599627370496) ∧ Kp0 w w' ∧ UpW w k :=
  oneC (v := 4607182418800017408) (m := 4602678819172646912) (r := 4841369599423283200) (e := 1) (A := 52) (N := 4503599627370496) (by decide +kernel) (by decide +kernel) one1_cv (by decide) (by decide) (by decide) (by decide) (by decide) w
theorem oneM2_cv (w : World) : (convert 35 2 (.float .f64 14064741636278059008)).run Tryz.prog w = .ok (.int .i64 (-4503599627370496)) w := by kernel_rfl
theorem oneM2 (w : World) : Calls Tryz.prog 76 #[.float .f64 13835058055282163712] w fun e w' => ∃ k, e = .returned (.tuple #[.pointer (some ⟨k, 0, none⟩), .int .i64 51]) ∧ InC w' k (-4503599627370496) ∧ Kp0 w w' ∧ UpW w k :=
  oneC (v := 13835058055282163712) (m := 13826050856027422720) (r := 14064741636278059008) (e := 2) (A := 51) (N := -4503599627370496) (by decide +kernel) (by decide +kernel) oneM2_cv (by decide) (by decide) (by decide) (by decide) (by decide) w
theorem smI_of {x : Int} (h : x.natAbs < 4294967296 ^ 1000) : SmI x 1000 := ⟨words_len_le h⟩
def of0E : Ex := ((0) * 2 ^ 0, 0 * 2 ^ 0, 53)
theorem of0 (w : World) : Calls Tryz.prog 36 #[.complex .f64 0 0] w fun e w' => ∃ k l, e = .returned (.agg #[.pointer (some ⟨k, 0, none⟩), .pointer (some ⟨l, 0, none⟩), .int .i64 of0E.2.2]) ∧ InC w' k of0E.1 ∧ InC w' l of0E.2.1 ∧ Kp0 w w' ∧ UpW w k ∧ UpW w l ∧ NeN k l :=
  ofC (x := 0) (y := 0) (d := 53) (D1 := 0) (D2 := 0) (a := 53) (b := 53) (N1 := 0) (N2 := 0) one0 one0 (by decide) (by decide) (by decide) (by decide) (by decide) (by decide) (s1 := smI_of (by decide +kernel)) (s2 := smI_of (by decide +kernel)) w
def of1E : Ex := ((4503599627370496) * 2 ^ 1, 0 * 2 ^ 0, 53)
theorem of1 (w : World) : Calls Tryz.prog 36 #[.complex .f64 4607182418800017408 0] w fun e w' => ∃ k l, e = .returned (.agg #[.pointer (some ⟨k, 0, none⟩), .pointer (some ⟨l, 0, none⟩), .int .i64 of1E.2.2]) ∧ InC w' k of1E.1 ∧ InC w' l of1E.2.1 ∧ Kp0 w w' ∧ UpW w k ∧ UpW w l ∧ NeN k l :=
  ofC (x := 4607182418800017408) (y := 0) (d := 53) (D1 := 1) (D2 := 0) (a := 52) (b := 53) (N1 := 4503599627370496) (N2 := 0) one1 one0 (by decide) (by decide) (by decide) (by decide) (by decide) (by decide) (s1 := smI_of (by decide +kernel)) (s2 := smI_of (by decide +kernel)) w
def ofM2E : Ex := ((-4503599627370496) * 2 ^ 2, 0 * 2 ^ 0, 53)
theorem ofM2 (w : World) : Calls Tryz.prog 36 #[.complex .f64 13835058055282163712 0] w fun e w' => ∃ k l, e = .returned (.agg #[.pointer (some ⟨k, 0, none⟩), .pointer (some ⟨l, 0, none⟩), .int .i64 ofM2E.2.2]) ∧ InC w' k ofM2E.1 ∧ InC w' l ofM2E.2.1 ∧ Kp0 w w' ∧ UpW w k ∧ UpW w l ∧ NeN k l :=
  ofC (x := 13835058055282163712) (y := 0) (d := 53) (D1 := 2) (D2 := 0) (a := 51) (b := 53) (N1 := -4503599627370496) (N2 := 0) oneM2 one0 (by decide) (by decide) (by decide) (by decide) (by decide) (by decide) (s1 := smI_of (by decide +kernel)) (s2 := smI_of (by decide +kernel)) w
def cfE (k : Nat) : Ex := if k = 0 then of1E else if k = 1 then of0E else ofM2E
def tvE (A : Ex) : Nat → Ex × Ex
  | 0 => (of0E, of0E)
  | k + 1 => (exP (exT (tvE A k).1 A) (tvE A k).2, exP (exT (tvE A k).2 A) (cfE k))
set_option synthInstance.maxHeartbeats 2000000 in
set_option synthInstance.maxSize 100000 in
set_option maxRecDepth 100000 in
set_option maxHeartbeats 16000000 in
theorem radius0 {w : World} {g : Nat} [vr : VrB w] (hg : g < w.heap.size) (hc : reads w g 0 [(13835058055282163712, 0), (0, 0), (4607182418800017408, 0)]) : Calls Tryz.prog 12 #[.slice (some ⟨g, 0, none⟩) 3 3, .complex .f64 0 0] w fun e w' => e = .returned (.tuple #[.float .f64 0, .int .i64 6]) ∧ Kp0 w w' :=
  Radius_any (w := w) (g := g) (cap := 3) (n := 2) [(13835058055282163712, 0), (0, 0), (4607182418800017408, 0)] (0, 0) hg hc (by decide +kernel) rfl (by decide) (by decide +kernel) of0E of0E cfE (fun k => (tvE of0E k).1) (fun k => (tvE of0E k).2) of0 of0
    (fun j hj w => by
      have h3 : j = 0 ∨ j = 1 ∨ j = 2 := by omega
      rcases h3 with rfl | rfl | rfl
      · exact of1 w
      · exact of0 w
      · exact ofM2 w)
    rfl rfl (fun k _ => rfl) (fun k _ => rfl) (by decide +kernel) (fun k h => (show ∀ j : Fin 3, exOk (cfE j.1) = true by decide +kernel) ⟨k, by omega⟩) (fun k h => (show ∀ j : Fin 4, exOk (tvE of0E j.1).1 = true by decide +kernel) ⟨k, by omega⟩) (fun k h => (show ∀ j : Fin 4, exOk (tvE of0E j.1).2 = true by decide +kernel) ⟨k, by omega⟩) (fun k h => (show ∀ j : Fin 3, exOk (exT (tvE of0E j.1).1 of0E) = true by decide +kernel) ⟨k, by omega⟩) (fun k h => (show ∀ j : Fin 3, exOk (exT (tvE of0E j.1).2 of0E) = true by decide +kernel) ⟨k, by omega⟩)
    (fun k h => (show ∀ j : Fin 3, (tvE of0E j.1).2.2.2 ≤ (exT (tvE of0E j.1).1 of0E).2.2 by decide +kernel) ⟨k, by omega⟩) (fun k h => (show ∀ j : Fin 3, (cfE j.1).2.2 ≤ (exT (tvE of0E j.1).2 of0E).2.2 by decide +kernel) ⟨k, by omega⟩)
    (P := ((tvE of0E 3).2.1 * (tvE of0E 3).2.1 + (tvE of0E 3).2.2.1 * (tvE of0E 3).2.2.1)) (Q := ((tvE of0E 3).1.1 * (tvE of0E 3).1.1 + (tvE of0E 3).1.2.1 * (tvE of0E 3).1.2.1)) rfl rfl (by decide +kernel) (res := 0) (err := 6) (.inl ⟨(by decide +kernel), rfl, rfl⟩)
set_option synthInstance.maxHeartbeats 2000000 in
set_option synthInstance.maxSize 100000 in
set_option maxRecDepth 100000 in
set_option maxHeartbeats 16000000 in
theorem radius1 {w : World} {g : Nat} [vr : VrB w] (hg : g < w.heap.size) (hc : reads w g 0 [(13835058055282163712, 0), (0, 0), (4607182418800017408, 0)]) : Calls Tryz.prog 12 #[.slice (some ⟨g, 0, none⟩) 3 3, .complex .f64 4607182418800017408 0] w fun e w' => e = .returned (.tuple #[.float .f64 4607182418800017408, .int .i64 0]) ∧ Kp0 w w' :=
  Radius_any (w := w) (g := g) (cap := 3) (n := 2) [(13835058055282163712, 0), (0, 0), (4607182418800017408, 0)] (4607182418800017408, 0) hg hc (by decide +kernel) rfl (by decide) (by decide +kernel) of1E of0E cfE (fun k => (tvE of1E k).1) (fun k => (tvE of1E k).2) of1 of0
    (fun j hj w => by
      have h3 : j = 0 ∨ j = 1 ∨ j = 2 := by omega
      rcases h3 with rfl | rfl | rfl
      · exact of1 w
      · exact of0 w
      · exact ofM2 w)
    rfl rfl (fun k _ => rfl) (fun k _ => rfl) (by decide +kernel) (fun k h => (show ∀ j : Fin 3, exOk (cfE j.1) = true by decide +kernel) ⟨k, by omega⟩) (fun k h => (show ∀ j : Fin 4, exOk (tvE of1E j.1).1 = true by decide +kernel) ⟨k, by omega⟩) (fun k h => (show ∀ j : Fin 4, exOk (tvE of1E j.1).2 = true by decide +kernel) ⟨k, by omega⟩) (fun k h => (show ∀ j : Fin 3, exOk (exT (tvE of1E j.1).1 of1E) = true by decide +kernel) ⟨k, by omega⟩) (fun k h => (show ∀ j : Fin 3, exOk (exT (tvE of1E j.1).2 of1E) = true by decide +kernel) ⟨k, by omega⟩)
    (fun k h => (show ∀ j : Fin 3, (tvE of1E j.1).2.2.2 ≤ (exT (tvE of1E j.1).1 of1E).2.2 by decide +kernel) ⟨k, by omega⟩) (fun k h => (show ∀ j : Fin 3, (cfE j.1).2.2 ≤ (exT (tvE of1E j.1).2 of1E).2.2 by decide +kernel) ⟨k, by omega⟩)
    (P := ((tvE of1E 3).2.1 * (tvE of1E 3).2.1 + (tvE of1E 3).2.2.1 * (tvE of1E 3).2.2.1)) (Q := ((tvE of1E 3).1.1 * (tvE of1E 3).1.1 + (tvE of1E 3).1.2.1 * (tvE of1E 3).1.2.1)) rfl rfl (by decide +kernel) (res := 4607182418800017408) (err := 0) (.inr ⟨(by decide +kernel), rfl, (((tvE of1E 3).1.1 * (tvE of1E 3).1.1 + (tvE of1E 3).1.2.1 * (tvE of1E 3).1.2.1) * 2 ^ (2 * (tvE of1E 3).2.2.2)).toNat, (by decide +kernel), (by decide +kernel), (by decide +kernel), (by decide +kernel), 70, (by decide +kernel), (by decide +kernel)⟩)
end Big
end
section
open Go.RowKit
set_option synthInstance.maxHeartbeats 2000000 in
set_option synthInstance.maxSize 100000 in
set_option maxRecDepth 100000 in
set_option maxHeartbeats 16000000 in
theorem awake_any {w : World} (hv : Big.Vr w) : Calls Tryz.prog 4 #[] w fun e w' => e = .returned (.bool true) ∧ Kp0 w w' := by
  have R1 := hid (fun (W : World) (g : Nat) (hW : Below w.heap.size w W) (hb : BkC W g [.complex .f64 13835058055282163712 0, .complex .f64 0 0, .complex .f64 4607182418800017408 0] 26) => Big.radius1 (w := W) (g := g) (vr := ⟨hv.below hW⟩) hb.out.lt (reads3 (a := (13835058055282163712, 0)) (b := (0, 0)) (c := (4607182418800017408, 0)) hb))
  have R0 := hid (fun (W : World) (g : Nat) (hW : Below w.heap.size w W) (hb : BkC W g [.complex .f64 13835058055282163712 0, .complex .f64 0 0, .complex .f64 4607182418800017408 0] 26) => Big.radius0 (w := W) (g := g) (vr := ⟨hv.below hW⟩) hb.out.lt (reads3 (a := (13835058055282163712, 0)) (b := (0, 0)) (c := (4607182418800017408, 0)) hb))
  clear hv
  go_enter Tryz.func4, Tryz.ntmps4
  go_upto_region 2 with (go_at_call 10; (with_reducible refine Calls.mono allA ?_); rintro e wa ⟨bz, cz, rfl, _, _⟩)
  go_upto_region 3 with (go_at_call 10; (with_reducible refine Calls.mono allB ?_); rintro e wb ⟨rfl, _⟩)
  go_upto_region 4 with (go_at_call 11; (with_reducible refine Calls.mono polishA ?_); rintro e wc ⟨rfl, _⟩)
  go_upto_region 5 with (go_at_call 12; (with_reducible refine Calls.mono (R1.out _ _ Gr.out inferInstance) ?_); rintro e wd ⟨rfl, _⟩)
  go_upto_region 6 with (go_at_call 12; (with_reducible refine Calls.mono (R0.out _ _ Gr.out inferInstance) ?_); rintro e we ⟨rfl, _⟩)
  go_upto_region 7 with (go_at_call 8; (with_reducible refine Calls.mono squareA ?_); rintro e wf ⟨rfl, _⟩)
  go_upto_region 8 with (go_at_call 13; (with_reducible refine Calls.mono roundA ?_); rintro e wg ⟨bm, cm, rfl, _, _⟩)
  have c0 : wg.cell? ⟨bz, 0, none⟩ = some (.complex .f64 13837309855095848960 0) := (inferInstance : PlC wg bz [(13837309855095848960, 0), (4611686018427387904, 0)]).out.cell (i := 0) (by decide)
  have c1 : wg.cell? ⟨bz, 1, none⟩ = some (.complex .f64 4611686018427387904 0) := (inferInstance : PlC wg bz [(13837309855095848960, 0), (4611686018427387904, 0)]).out.cell (i := 1) (by decide)
  have d0 : wg.cell? ⟨bm, 0, none⟩ = some (.complex .f64 4607182418800017408 0) := (inferInstance : PlC wg bm [(4607182418800017408, 0), (13830554455654793216, 0)]).out.cell (i := 0) (by decide)
  have d1 : wg.cell? ⟨bm, 1, none⟩ = some (.complex .f64 13830554455654793216 0) := (inferInstance : PlC wg bm [(4607182418800017408, 0), (13830554455654793216, 0)]).out.cell (i := 1) (by decide)
  have q0 : (FloatKind.f64.format.order 13837309855095848960 13837287337097712108 == some Ordering.lt) = true := by decide +kernel
  have q1 : (FloatKind.f64.format.order 13837309855095848960 13837332373093985812 == some Ordering.gt) = true := by decide +kernel
  have q2 : (FloatKind.f64.format.order 4611686018427387904 4611640982431114199 == some Ordering.gt) = true := by decide +kernel
  have q3 : (FloatKind.f64.format.order 4611686018427387904 4611708536425524756 == some Ordering.lt) = true := by decide +kernel
  have q4 : (FloatKind.f64.format.order 4609434218613702656 4609434218613702656 == some Ordering.eq) = true := by decide +kernel
  have q5 : (FloatKind.f64.format.order 0 0 == some Ordering.eq) = true := by decide +kernel
  have q6 : (FloatKind.f64.format.order 4607182418800017408 4607182418800017408 == some Ordering.eq) = true := by decide +kernel
  have q7 : (FloatKind.f64.format.order 4611686018427387904 4611686018427387904 == some Ordering.eq) = true := by decide +kernel
  have q8 : (FloatKind.f64.format.order 9223372036854775808 0 == some Ordering.eq) = true := by decide +kernel
  have q9 : (FloatKind.f64.format.order 13830554455654793216 13830554455654793216 == some Ordering.eq) = true := by decide +kernel
  go_upto_region 11 with fail
  go_wp2_with fail
  go_ret
  exact ⟨rfl, ⟨Gr.out⟩⟩
end
section
open Go.RowKit
open Go.ChangeShapes Go.WideShapes Go.RowKit Go.Stop
set_option maxRecDepth 100000
theorem own : ownKnob Tryz.prog.godebug = none := by kernel_rfl
theorem g_db : Tryz.prog.globalNamed "math/bits.deBruijn32tab" = some 1 := by kernel_rfl
theorem t_db : (Tryz.prog.globals[1]?).map (·.type) = some 146 := by kernel_rfl
theorem c_5 : Tryz.prog.cellsOf 5 = 1 := by kernel_rfl
theorem c_22 : Tryz.prog.cellsOf 22 = 1 := by kernel_rfl
theorem c_24 : Tryz.prog.cellsOf 24 = 2 := by kernel_rfl
theorem c_146 : Tryz.prog.cellsOf 146 = 32 := by kernel_rfl
def allLaid : List (String × DataW Unit) := [("math/bits.deBruijn32tab", Rows.laid_math_bits_deBruijn32tab)]
/-- What the statement's condition gives a walk. -/
theorem vr_of_laid {W : World} (h : laidMetH Tryz.prog allLaid W) : Big.Vr W := by
  have h0 : laidMet Tryz.prog allLaid W := h
  have e : Rows.laid_math_bits_deBruijn32tab = Lib.tabData (H := Unit) .u8 (Lib.deBruijn32tab.map fun n : Nat => (n : Int)) := by rfl
  have h1 : laidMet Tryz.prog (("math/bits.deBruijn32tab", Lib.tabData .u8 (Lib.deBruijn32tab.map fun n : Nat => (n : Int))) :: []) W := by
    rw [← e]; exact h0
  have ht := Lib.tabIs_of_head g_db t_db Tryz.underlying146 Tryz.underlying5 c_5 c_146 h1
  have hc : ∀ j, j < 32 → W.cell? ⟨1, j, none⟩ = some (.int .u8 (Lib.deBruijn32tab.getD j 0)) := by
    intro j hj
    rw [ht.cell g_db j hj]
    congr 2
    rw [List.getD_eq_getElem?_getD, List.getD_eq_getElem?_getD, List.getElem?_map]
    rw [List.getElem?_eq_getElem (show j < Lib.deBruijn32tab.length from hj)]
    rfl
  refine ⟨?_, hc⟩
  have := hc 0 (by decide)
  by_cases hlt : 1 < W.heap.size
  · exact hlt
  · exfalso
    simp [World.cell?, Array.getElem?_eq_none (Nat.le_of_not_lt hlt)] at this
noncomputable def laidWorld (os : Os) : World := World.laidAll Tryz.prog os allLaid
theorem laidWorld_met (os : Os) (args : Array Value) : laidMetH Tryz.prog allLaid ((laidWorld os).forCall (fun _ _ => 0) ⟨#[], args, []⟩).memory :=
  laidMetH_of_parts (laidMet_of_run' 8 (by kernel_rfl) (by kernel_rfl)) (by kernel_rfl)
section
variable {H : Type} {enc : TypeId × Value → H} {w : World} {base : Nat} {sp : Nat → Bool} {held : Bool}
def dI (x : Int) : DataW H := .lit (.int .i16 x)
def dG (x y : Int) : DataW H := .agg [dI x, dI y]
theorem trod_i {fuel : Nat} {cs : List Value} {x : DataW H × List MemPlace} (h : DataW.trod enc Tryz.prog w base sp held fuel 22 cs = some x) : ∃ n : Int, cs = [.int .i16 n] ∧ x = (dI n, []) ∧ (Lit.int .i16 n).wf = true := DataW.trod_int Tryz.underlying22 h
theorem take2 {cs : List Value} {u v : Value} (h : cs.length = 2) (h0 : (cs.drop 0).take 1 = [u]) (h1 : (cs.drop 1).take 1 = [v]) : cs = [u, v] := by
  match cs, h with
  | [a, b], _ =>
    simp at h0 h1
    rw [h0, h1]
theorem trod_g {fuel : Nat} {cs : List Value} {x : DataW H × List MemPlace} (h : DataW.trod enc Tryz.prog w base sp held fuel 24 cs = some x) : ∃ m n : Int, cs = [.int .i16 m, .int .i16 n] ∧ x = (dG m n, []) ∧ (Lit.int .i16 m).wf = true ∧ (Lit.int .i16 n).wf = true := by
  obtain ⟨y0, y1, k, rfl, hl, h0, h1⟩ := Go.ChangeShapes.trod_struct2 Tryz.underlying24 h
  obtain ⟨m, e0, rfl, b0⟩ := trod_i h0
  obtain ⟨n, e1, rfl, b1⟩ := trod_i h1
  rw [c_24] at hl
  rw [c_22] at e0 e1
  exact ⟨m, n, take2 hl e0 e1, rfl, b0, b1⟩
theorem open_g {r : Reach} {b0 : Nat} {v : Value} {d : DataW H} {ps : List MemPlace} (hval : Value.okWide Tryz.prog w r b0 24 v) (h : DataW.Trod enc Tryz.prog w base sp held 24 v d ps) : ∃ m n : Int, v = .agg #[.int .i16 m, .int .i16 n] ∧ d = dG m n ∧ ps = [] ∧ (Lit.int .i16 m).wf = true ∧ (Lit.int .i16 n).wf = true := by
  obtain ⟨cs, rfl, hs⟩ := Go.WideShapes.okWide_struct Tryz.underlying24 hval
  obtain ⟨fuel, hf⟩ := h
  obtain ⟨m, n, e, ex, b⟩ := trod_g hf
  simp only [Prod.mk.injEq] at ex
  exact ⟨m, n, congrArg Value.agg (Array.toList_inj.1 (show cs.toList = _ from e)), ex.1, ex.2, b⟩
theorem shut_g {m n : Int} (hm : (Lit.int .i16 m).wf = true) (hn : (Lit.int .i16 n).wf = true) : DataW.Trod enc Tryz.prog w base sp held 24 (.agg #[.int .i16 m, .int .i16 n]) (dG m n) [] := by
  have hl : ([.int .i16 m, .int .i16 n] : List Value).length = Tryz.prog.cellsOf 24 := c_24.symm
  have h0 : DataW.trod enc Tryz.prog w base sp held 1 22 ((([.int .i16 m, .int .i16 n] : List Value).drop 0).take (Tryz.prog.cellsOf 22)) = some (dI m, []) := by
    rw [c_22]; exact Go.ChangeShapes.trod_int_mk 0 Tryz.underlying22 hm
  have h1 : DataW.trod enc Tryz.prog w base sp held 1 22 ((([.int .i16 m, .int .i16 n] : List Value).drop 1).take (Tryz.prog.cellsOf 22)) = some (dI n, []) := by
    rw [c_22]; exact Go.ChangeShapes.trod_int_mk 0 Tryz.underlying22 hn
  exact ⟨2, Go.ChangeShapes.trod_struct2_mk Tryz.underlying24 hl h0 h1⟩
end
end
section
open Go.RowKit
/-- Exact sums and so on. -/
theorem add_x {a b : Nat} {x y z : Q} (ha : Fv a x) (hb : Fv b y) (hz : x + y = z) (hr : Rep z) (h : InR z) : ∃ r, fadd a b = some r ∧ Fv r z ∧ Nn r := by
  subst hz
  obtain ⟨r, v, d, h1, h2, h3, h4, -, h6⟩ := add_v ha hb h
  rw [h6 hr] at h4
  have : v = x + y := by rw [h4]; grind
  exact ⟨r, h1, this ▸ h2, h3⟩
theorem sub_x {a b : Nat} {x y z : Q} (ha : Fv a x) (hb : Fv b y) (hz : x - y = z) (hr : Rep z) (h : InR z) : ∃ r, fsub a b = some r ∧ Fv r z ∧ Nn r := by
  subst hz
  obtain ⟨r, v, d, h1, h2, h3, h4, -, h6⟩ := sub_v ha hb h
  rw [h6 hr] at h4
  have : v = x - y := by rw [h4]; grind
  exact ⟨r, h1, this ▸ h2, h3⟩
theorem mul_x {a b : Nat} {x y z : Q} (ha : Fv a x) (hb : Fv b y) (hz : x * y = z) (hr : Rep z) (h : InR z) : ∃ r, fmul a b = some r ∧ Fv r z ∧ Nn r := by
  subst hz
  obtain ⟨r, v, d, h1, h2, h3, h4, -, h6⟩ := mul_v ha hb h
  rw [h6 hr] at h4
  have : v = x * y := by rw [h4]; grind
  exact ⟨r, h1, this ▸ h2, h3⟩
theorem div_x {a b : Nat} {x y z : Q} (ha : Fv a x) (hb : Fv b y) (hy : y ≠ 0) (hz : x / y = z) (hr : Rep z) (h : InS z) : ∃ r, fdiv a b = some r ∧ Fv r z ∧ Nn r := by
  subst hz
  obtain ⟨r, v, d, h1, h2, h3, h4, -, h6⟩ := div_v ha hb hy h
  rw [h6 hr] at h4
  have : v = x / y := by rw [h4]; grind
  exact ⟨r, h1, this ▸ h2, h3⟩
/-- Whole numbers over a power of two. -/
def zs (n : Int) (e : Int) : Q := (n : Q) * (2 : Q) ^ e
theorem zs_rep {n e : Int} (h : n.natAbs < 9007199254740992) : Rep (zs n e) := ⟨n, e, h, rfl⟩
theorem zs_0 (n : Int) : zs n 0 = (n : Q) := by unfold zs; rw [Rat.zpow_zero]; grind
theorem zs_add (n m e : Int) : zs n e + zs m e = zs (n + m) e := by unfold zs; rw [Rat.intCast_add]; grind
theorem zs_sub (n m e : Int) : zs n e - zs m e = zs (n - m) e := by unfold zs; rw [Rat.intCast_sub]; grind
theorem zs_mul (n m e f : Int) : zs n e * zs m f = zs (n * m) (e + f) := by unfold zs; rw [Rat.intCast_mul, zp_add]; grind
theorem zs_shift (n e f : Int) : zs n e * (2 : Q) ^ f = zs n (e + f) := by unfold zs; rw [zp_add]; grind
theorem zs_z (e : Int) : zs 0 e = 0 := by unfold zs; simp
theorem zp_mono {a b : Int} (h : a ≤ b) : (2 : Q) ^ a ≤ (2 : Q) ^ b := by
  rcases Int.lt_or_eq_of_le h with h | h
  · exact Rat.le_of_lt (zp_lt h)
  · rw [h]; exact Rat.le_refl
theorem zs_pos_bd {n : Int} {e : Int} (h1 : 1 ≤ n) (h2 : n < 9007199254740992) : (2 : Q) ^ e ≤ zs n e ∧ zs n e ≤ (2 : Q) ^ (53 + e) := by
  have a1 : ((1 : Int) : Q) ≤ (n : Q) := Rat.intCast_le_intCast.2 h1
  have a2 : (n : Q) ≤ ((9007199254740992 : Int) : Q) := Rat.intCast_le_intCast.2 (by omega)
  have p := two_pos e
  have e53 : (2 : Q) ^ (53 : Int) = 9007199254740992 := by rw [show (53 : Int) = ((53 : Nat) : Int) from rfl, zp_nat]; rfl
  unfold zs
  rw [zp_add, e53]
  rw [show ((1 : Int) : Q) = 1 from rfl] at a1
  rw [show ((9007199254740992 : Int) : Q) = 9007199254740992 from rfl] at a2
  have m1 := Rat.mul_le_mul_of_nonneg_right a1 (Rat.le_of_lt p)
  have m2 := Rat.mul_le_mul_of_nonneg_right a2 (Rat.le_of_lt p)
  constructor
  · grind
  · exact m2
theorem zs_neg (n e : Int) : zs (-n) e = -zs n e := by unfold zs; rw [Rat.intCast_neg]; grind
theorem zs_inS {n e : Int} (h : n.natAbs < 9007199254740992) (h1 : -400 ≤ e) (h2 : e ≤ 400) : InS (zs n e) := by
  unfold InS
  rcases Int.lt_trichotomy n 0 with k | k | k
  · right; right
    rw [← zs_neg]
    obtain ⟨b1, b2⟩ := zs_pos_bd (n := -n) (e := e) (by omega) (by omega)
    exact ⟨Rat.le_trans (zp_mono (by omega)) b1, Rat.le_trans b2 (zp_mono (by omega))⟩
  · left; rw [k, zs_z]
  · right; left
    obtain ⟨b1, b2⟩ := zs_pos_bd (n := n) (e := e) (by omega) (by omega)
    exact ⟨Rat.le_trans (zp_mono (by omega)) b1, Rat.le_trans b2 (zp_mono (by omega))⟩
theorem zs_inR {n e : Int} (h : n.natAbs < 9007199254740992) (h1 : -400 ≤ e) (h2 : e ≤ 400) : InR (zs n e) := (zs_inS h h1 h2).r
theorem zs_inj {n m e : Int} (h : zs n e = zs m e) : n = m := by
  unfold zs at h
  have p := two_pos e
  have h4 : ((n : Q) - (m : Q)) * (2 : Q) ^ e = 0 := by grind
  rcases Rat.mul_eq_zero.1 h4 with h5 | h5
  · exact Rat.intCast_inj.1 (by grind)
  · grind
theorem Fv.uniq {b : Nat} {x y : Q} (h : Fv b x) (k : Fv b y) : x = y := by
  obtain ⟨-, s, m, p, hr, rfl⟩ := h
  obtain ⟨-, t, n, q, hs, rfl⟩ := k
  rw [hr] at hs
  cases hs
  rfl
/-- A float at hand: not nought, it is normal. -/
theorem Nn.parts {b : Nat} {x : Q} (h : Nn b) (hf : Fv b x) (hx : x ≠ 0) : ∃ S E f, b = nrm S E f ∧ S < 2 ∧ 1 ≤ E ∧ E ≤ 2046 ∧ f < 4503599627370496 ∧ x = nv (S == 1) (4503599627370496 + f) (-1075 + (E : Int)) := by
  obtain ⟨e1, e2, e3, e4⟩ := nrm_of hf.1
  rcases h with h | ⟨h1, h2⟩
  · exact absurd (hf.uniq (zero_v hf.1 h)) hx
  · have k1 : 1 ≤ expP b := by unfold expP; omega
    have k2 : expP b ≤ 2046 := by unfold expP; omega
    refine ⟨_, _, _, e1, e2, k1, k2, e4, ?_⟩
    have v := nrm_v e2 k1 k2 e4
    rw [← e1] at v
    exact hf.uniq v
/-- .. and how great it is. -/
theorem nrm_size {E f : Nat} (hf : f < 4503599627370496) : (2 : Q) ^ ((E : Int) - 1023) ≤ nv false (4503599627370496 + f) (-1075 + (E : Int)) ∧ nv false (4503599627370496 + f) (-1075 + (E : Int)) < (2 : Q) ^ ((E : Int) - 1022) := by
  have e0 : nv false (4503599627370496 + f) (-1075 + (E : Int)) = ((4503599627370496 + f : Nat) : Q) * (2 : Q) ^ (-1075 + (E : Int)) := by
    rw [nv_mag]
    unfold sgr
    simp only [Bool.false_eq_true, if_false]
    grind
  have p := two_pos (-1075 + (E : Int))
  obtain ⟨v, hv⟩ : ∃ v, v = -1075 + (E : Int) := ⟨_, rfl⟩
  rw [← hv] at e0 p ⊢
  have t1 : (2 : Q) ^ ((E : Int) - 1023) = ((2 ^ 52 : Nat) : Q) * (2 : Q) ^ v := by rw [← zp_nat, ← zp_add]; congr 1; omega
  have t2 : (2 : Q) ^ ((E : Int) - 1022) = ((2 ^ 53 : Nat) : Q) * (2 : Q) ^ v := by rw [← zp_nat, ← zp_add]; congr 1; omega
  rw [e0, t1, t2]
  constructor
  · exact Rat.mul_le_mul_of_nonneg_right (Rat.natCast_le_natCast.2 (by omega)) (Rat.le_of_lt p)
  · exact Rat.mul_lt_mul_of_pos_right (Rat.natCast_lt_natCast.2 (by omega)) p
theorem Nn.size {b : Nat} {x : Q} (h : Nn b) (hf : Fv b x) (hx : x ≠ 0) : ∃ S E f, b = nrm S E f ∧ S < 2 ∧ 1 ≤ E ∧ E ≤ 2046 ∧ f < 4503599627370496 ∧ x = nv (S == 1) (4503599627370496 + f) (-1075 + (E : Int)) ∧ (2 : Q) ^ ((E : Int) - 1023) ≤ qabs x ∧ qabs x < (2 : Q) ^ ((E : Int) - 1022) := by
  obtain ⟨S, E, f, h1, h2, h3, h4, h5, h6⟩ := h.parts hf hx
  obtain ⟨k1, k2⟩ := nrm_size (E := E) h5
  refine ⟨S, E, f, h1, h2, h3, h4, h5, h6, ?_, ?_⟩
  · rw [h6, qabs_nv]; exact k1
  · rw [h6, qabs_nv]; exact k2
theorem nrm_parts {S E f : Nat} (hS : S < 2) (hE : E < 2048) (hf : f < 4503599627370496) : sgnP (nrm S E f) = S ∧ expP (nrm S E f) = E ∧ fraP (nrm S E f) = f ∧ nrm S E f < 18446744073709551616 ∧ (1 ≤ E → nrm S E f % 9223372036854775808 ≠ 0) := by
  unfold sgnP expP fraP nrm
  omega
/-- Frexp's exponent. -/
theorem frx_v {b : Nat} {x : Q} (h : Nn b) (hf : Fv b x) (hx : x ≠ 0) : ∃ r : Nat × Int, frx b = some r ∧ (2 : Q) ^ (r.2 - 1) ≤ qabs x ∧ qabs x < (2 : Q) ^ r.2 := by
  obtain ⟨S, E, f, rfl, h2, h3, h4, h5, -, k1, k2⟩ := h.size hf hx
  obtain ⟨p1, p2, p3, p4, p5⟩ := nrm_parts h2 (show E < 2048 by omega) h5
  refine ⟨(nrm S 1022 f, (E : Int) - 1022), ?_, ?_, k2⟩
  · unfold frx
    rw [if_neg (fun hh => p5 h3 hh.2), if_pos ⟨p4, by rw [p2]; exact h3, by rw [p2]; exact h4⟩, p1, p2, p3]
  · rw [show ((nrm S 1022 f, (E : Int) - 1022) : Nat × Int).2 - 1 = (E : Int) - 1023 by simp; omega]
    exact k1
/-- Ldexp. -/
theorem ldx_v {b : Nat} {x : Q} {n : Int} (h : Nn b) (hf : Fv b x) (hn1 : -2000 ≤ n) (hn2 : n ≤ 2000) (hx : x = 0 ∨ ((2 : Q) ^ (-1000 : Int) ≤ qabs (x * (2 : Q) ^ n) ∧ qabs (x * (2 : Q) ^ n) ≤ (2 : Q) ^ (1000 : Int))) : ∃ r, ldx b n = some r ∧ Fv r (x * (2 : Q) ^ n) ∧ Nn r := by
  by_cases h0 : x = 0
  · subst h0
    rcases h with h | ⟨h1, h2⟩
    · refine ⟨b, ?_, ?_, .inl h⟩
      · unfold ldx
        rw [if_pos ⟨hf.1, h, by omega, by omega⟩]
      · rw [Rat.zero_mul]; exact hf
    · exfalso
      obtain ⟨e1, e2, e3, e4⟩ := nrm_of hf.1
      have k1 : 1 ≤ expP b := by unfold expP; omega
      have k2 : expP b ≤ 2046 := by unfold expP; omega
      have v := nrm_v e2 k1 k2 e4
      rw [← e1] at v
      have := hf.uniq v
      have q := nrm_size (E := expP b) e4
      have q2 := two_pos ((expP b : Int) - 1023)
      have q3 := qabs_nv (sgnP b == 1) (4503599627370496 + fraP b) (-1075 + (expP b : Int))
      rw [← this] at q3
      have z : qabs 0 = 0 := by decide
      rw [z] at q3
      grind
  · obtain ⟨S, E, f, rfl, h2, h3, h4, h5, hv, k1, k2⟩ := h.size hf h0
    obtain ⟨p1, p2, p3, p4, p5⟩ := nrm_parts h2 (show E < 2048 by omega) h5
    have hx' := hx.resolve_left h0
    have qm : qabs (x * (2 : Q) ^ n) = qabs x * (2 : Q) ^ n := by
      have t := two_pos n
      unfold qabs
      by_cases k : x < 0
      · have : x * (2 : Q) ^ n < 0 := by
          have := Rat.mul_lt_mul_of_pos_right k t
          grind
        rw [if_pos k, if_pos this]
        grind
      · have : ¬ x * (2 : Q) ^ n < 0 := by
          have := Rat.mul_nonneg (show 0 ≤ x by grind) (Rat.le_of_lt t)
          grind
        rw [if_neg k, if_neg this]
    rw [qm] at hx'
    have t := two_pos n
    have b1 : (2 : Q) ^ ((E : Int) - 1023 + n) ≤ (2 : Q) ^ (1000 : Int) := by
      rw [zp_add]
      exact Rat.le_trans (Rat.mul_le_mul_of_nonneg_right k1 (Rat.le_of_lt t)) hx'.2
    have b2 : (2 : Q) ^ (-1000 : Int) < (2 : Q) ^ ((E : Int) - 1022 + n) := by
      rw [zp_add]
      have := Rat.mul_lt_mul_of_pos_right k2 t
      have := hx'.1
      grind
    have c1 := zp_le_iff b1
    have c2 := zp_lt_iff b2
    refine ⟨nrm S ((E : Int) + n).toNat f, ?_, ?_, ?_⟩
    · unfold ldx
      rw [if_neg (fun hh => p5 h3 hh.2.1), if_pos ⟨p4, by rw [p2]; exact h3, by rw [p2]; exact h4, by omega, by omega, by rw [p2]; omega, by rw [p2]; omega⟩, p1, p2, p3]
    · have v := nrm_v h2 (show 1 ≤ ((E : Int) + n).toNat by omega) (by omega) h5
      have e : nv (S == 1) (4503599627370496 + f) (-1075 + ((((E : Int) + n).toNat : Nat) : Int)) = x * (2 : Q) ^ n := by
        rw [hv, nv_mag, nv_mag, show -1075 + ((((E : Int) + n).toNat : Nat) : Int) = (-1075 + (E : Int)) + n by omega, zp_add]
        grind
      rw [e] at v
      exact v
    · right
      unfold nrm
      omega
end
end Go.Proofs.YtcoillcppmibgaaGreatDoor
