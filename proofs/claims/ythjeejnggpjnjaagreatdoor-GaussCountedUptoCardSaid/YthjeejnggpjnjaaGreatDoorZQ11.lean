/- GaussCounted returns true for every input that is not vast: the given card of the second form. -/
import Derived.Test.YthjeejnggpjnjaaGreatDoorZQ06
import Derived.Test.YthjeejnggpjnjaaGreatDoorZQ10
import Derived.Test.YthjeejnggpjnjaaGreatDoorTie
import Derived.Test.YthjeejnggpjnjaaGreatDoorCards
import Derived.SevenTiedAt
import Derived.Below
import Derived.Carry
import Derived.Deep.DeepHandedRow
set_option linter.unusedSimpArgs false
set_option linter.unusedVariables false
set_option maxRecDepth 100000
set_option maxHeartbeats 16000000
set_option synthInstance.maxHeartbeats 2000000
set_option synthInstance.maxSize 100000
namespace Go.Proofs.YthjeejnggpjnjaaGreatDoor
open Go.RowKit
open Go.ChangeShapes Go.WideShapes Go.ChangeAt Go.RowKit
theorem gaussCounted_reads (os : Os) {H : Type} (enc : TypeId × Value → H) : ∃ places, DataW.whole enc Tryz.prog ((laidWorld os).forCall (fun _ _ => 0) ⟨#[], #[.slice none 0 0, .agg #[.int .i16 0, .int .i16 0], .agg #[.int .i16 0, .int .i16 0]], []⟩).memory Tryz.f6.params.toList Rows.gaussCountedSpec.vars false (#[.slice none 0 0, .agg #[.int .i16 0, .int .i16 0], .agg #[.int .i16 0, .int .i16 0]] : Array Value).toList 8 = some ([.nil, dG 0 0, dG 0 0], [], places) :=
 ⟨[], by kernel_rfl⟩
set_option maxHeartbeats 4000000 in
theorem gaussCounted_contract (H : Type) (enc : TypeId × Value → H) (W : World) (base : Nat) (args : Array Value) (ds gs : List (DataW H)) (before : List MemPlace)
 (hval0 : ∀ (j : Nat) t v, Tryz.f6.params[j]? = some t → args[j]? = some v → Value.okWide Tryz.prog W .any base t v)
 (hW : DataW.Whole enc Tryz.prog Tryz.f6.params.toList Rows.gaussCountedSpec.vars false W args.toList ds gs before)
 (hc : Rows.uptoSmall H (ds ++ gs) = true) (hL : laidMetH Tryz.prog Rows.gaussCountedUptoRow.laid W) :
 Calls Tryz.prog 6 args W fun e W' => ∃ v, e = .returned v ∧ Rows.gaussCountedSpec.post enc Tryz.prog Tryz.f6 false true false false W args v W' := by
 have hval : ∀ (j : Nat) t v, Tryz.f6.params[j]? = some t → args[j]? = some v → Value.okWide Tryz.prog W .any base t v := hval0; have hW' := hW; have hlt := fun p hp => hW.lt p hp
 obtain ⟨p, q, hA0, hV0, rfl, hfz, hnd⟩ := hW; have hA : DataW.TrodAll enc Tryz.prog W 0 (fun _ => true) true Tryz.f6.params.toList args.toList ds p := hA0
 have hV : DataW.TrodVars enc Tryz.prog W (fun _ => true) [] gs q := hV0
 rw [Tryz.params6] at hA hval; obtain ⟨rfl, rfl⟩ := trodVars_none hV; obtain ⟨v0, v1, v2, d0, d1, d2, p0, p1, p2, rfl, rfl, rfl, h0, h1, h2⟩ := trodAll_three hA; obtain ⟨x1, y1, rfl, rfl, rfl, bx1, by1⟩ := open_gauss (hval 1 55 v1 rfl rfl) h1; obtain ⟨x2, y2, rfl, rfl, rfl, bx2, by2⟩ := open_gauss (hval 2 55 v2 rfl rfl) h2; obtain ⟨a0, cap0, l0, rfl, hok0, hpl0, hlen0⟩ := open_gausses (hval 0 48 v0 rfl rfl) h0; have hVars := vr_of_laid hL; have hb0 := of_decide_eq_true hc; have hb_0 := bulk_one (d0 : DataW H); have hb_1 := bulk_one (dG x1 y1 : DataW H); have hb_2 := bulk_one (dG x2 y2 : DataW H); simp only [List.append_nil, List.cons_append, List.nil_append, Rows.uptoBulkAll] at hb0; refine (lawCnt (hv := ⟨hVars⟩) (cap := cap0) hpl0 (by omega) hok0 bx1 by1 bx2 by2).mono fun e W' ⟨he, hb⟩ => ?_
 subst he; simp only [List.append_nil, List.nil_append] at hW' hlt; have hold0 : ∀ p ∈ p0, (fun b => decide (b < W.heap.size)) p.block = true := fun p hp => by simpa using hlt p (by simp [hp])
 have hr0 : DataW.Trod enc Tryz.prog W' 0 (fun b => decide (b < W.heap.size)) true 48 (.slice a0 l0.length cap0) d0 p0 := by
  obtain ⟨fuel, hf⟩ := DataW.Trod.respare (spare' := fun b => decide (b < W.heap.size)) kids full (show (48 : Nat) < Tryz.prog.types.size from of_decide_eq_true (by kernel_rfl)) h0 hold0
  refine ⟨fuel, DataW.trod_carry _ _ _ _ hf (fun p hp => ?_)⟩
  have hk : W'.heap[p.block]? = W.heap[p.block]? := hb.out.block _ (by simpa using hold0 p hp)
  cases p with
  | cell b off => exact World.cell?_of_block (w := W) hk
  | map b => exact hk
 refine ⟨_, rfl, _, _, _, [], p0 ++ ([] ++ ([])), [], hW', (trodAll_mk1 (shut_bool Tryz.underlying4 true)), trodAll_mk3 hr0 (shut_gauss bx1 by1) (shut_gauss bx2 by2), rfl, World.keptBut_mono (fun p hp => ⟨hp, ?_⟩) (hb.out.frame (· ∈ p0)), fun h => by cases h⟩
 simpa using hp
theorem gaussCounted_lifted (os : Os) (started : os.Started) (H : Type) (enc : TypeId × Value → H) (F : Stop.Interp) :
 ReturnsInHanded {} Tryz.checked os 6 .any ((Rows.OpenSpec.upto Rows.gaussCountedSpec).preRow enc Tryz.prog Tryz.f6 Rows.gaussCountedUptoRow.domain false Rows.gaussCountedUptoRow.laid) (((Rows.OpenSpec.upto Rows.gaussCountedSpec).at F).post enc Tryz.prog Tryz.f6 false true false false) := by
 obtain ⟨places, hx⟩ := gaussCounted_reads os enc
 refine returnsInHanded_of_row (C := Tryz.checked) (s := Rows.OpenSpec.upto Rows.gaussCountedSpec) own started (by kernel_rfl) Tryz.func6
  (witness_row_at (enc := enc) (C := Tryz.checked) false (laidWorld os) #[.slice none 0 0, .agg #[.int .i16 0, .int .i16 0], .agg #[.int .i16 0, .int .i16 0]] rfl (by kernel_rfl) (by kernel_rfl) (by kernel_rfl)
    (OpenSpec.preRow_of_cond 8 hx (by kernel_rfl) (fun k hk => by cases hk; kernel_rfl) (by kernel_rfl) (laidWorld_met os _))) ?_
 intro W base args ds gs before hval hW _ hcond _ hL _ _; exact gaussCounted_contract H enc W base args ds gs before hval hW (hcond _ rfl) hL
theorem gaussCounted_over : Rows.GaussCountedUptoSaid :=
 OpenClaim.holds_of_cond 6 Tryz.f6 rfl rfl rfl rfl rfl rfl rfl ⟨rfl, rfl, rfl, rfl, rfl⟩ rfl rfl rfl rfl rfl (by kernel_rfl) Tryz.func6 (by kernel_rfl)
  (of_decide_eq_true (by kernel_rfl)) (by unfold Func.isWrapper; first | (rw [if_pos (by decide +kernel)]; kernel_rfl) | (rw [if_neg (by decide +kernel)]; exact ⟨rfl, rfl⟩))
  (fun os started H enc _ F => by rw [OpenClaim.pre_eq_preRow]; exact gaussCounted_lifted os started H enc F)
theorem gaussCounted_holds : Rows.GaussCountedUptoCardSaid :=
 Claim7.holds_tied_plain_at .later [] [.data] true (true, "ef451c615b5b81a19ccbf57d22d5dc934475ce41844b02a4a74bf58eb3e3eb50") false
  gaussCounted_over (fun _ h => by cases h) (by kernel_rfl) (fun _ h => by cases h) gaussCountedUpto_row_tie rfl ⟨rfl, rfl⟩ (by kernel_rfl) rfl
  (fun f fn hf hfn => by
    obtain rfl : f = 6 := Option.some.inj ((show Tryz.prog.funcNamed "eddy/eddylaw03.GaussCounted" = some 6 by kernel_rfl).symm.trans hf) |>.symm
    obtain rfl : fn = Tryz.f6 := (Option.some.inj (Tryz.func6.symm.trans hfn)).symm
    exact ⟨by kernel_rfl, fun j t ht => by
     rw [Tryz.params6] at ht; rcases j with _ | j
     · obtain rfl : t = 48 := by simpa using ht.symm
       exact (show Tryz.prog.wantsStandIn 48 = false by kernel_rfl)
     · skip
       rcases j with _ | j
       · obtain rfl : t = 55 := by simpa using ht.symm
         exact (show Tryz.prog.wantsStandIn 55 = false by kernel_rfl)
       · skip
         rcases j with _ | j
         · obtain rfl : t = 55 := by simpa using ht.symm
           exact (show Tryz.prog.wantsStandIn 55 = false by kernel_rfl)
         · skip
           simp at ht⟩)
  (by kernel_rfl)
end Go.Proofs.YthjeejnggpjnjaaGreatDoor
