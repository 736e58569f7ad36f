/- GaussZeros returns true for every input that is not vast: the given card of the second form. -/
import Derived.Test.YthjeejnggpjnjaaGreatDoorZY27
import Derived.Test.YthjeejnggpjnjaaGreatDoorZY28
import Derived.Test.YthjeejnggpjnjaaGreatDoorTie
import Derived.Test.YthjeejnggpjnjaaGreatDoorCards
import Derived.SevenTiedAt
import Derived.Below
import Derived.Carry
import Derived.Deep.DeepHandedRow
set_option linter.unusedSimpArgs false
set_option linter.unusedVariables false
set_option maxRecDepth 100000
set_option maxHeartbeats 16000000
set_option synthInstance.maxHeartbeats 2000000
set_option synthInstance.maxSize 100000
namespace Go.Proofs.YthjeejnggpjnjaaGreatDoor
open Go.RowKit
open Go.ChangeShapes Go.WideShapes Go.ChangeAt Go.RowKit
theorem gaussZeros_reads (os : Os) {H : Type} (enc : TypeId × Value → H) : ∃ places, DataW.whole enc Tryz.prog ((laidWorld os).forCall (fun _ _ => 0) ⟨#[], #[.slice none 0 0, .agg #[.int .u64 0, .int .u64 0, .int .u64 0, .int .u64 0]], []⟩).memory Tryz.f4.params.toList Rows.gaussZerosSpec.vars false (#[.slice none 0 0, .agg #[.int .u64 0, .int .u64 0, .int .u64 0, .int .u64 0]] : Array Value).toList 8 = some ([.nil, dC 0 0 0 0], [], places) :=
 ⟨[], by kernel_rfl⟩
set_option maxHeartbeats 4000000 in
theorem gaussZeros_contract (H : Type) (enc : TypeId × Value → H) (W : World) (base : Nat) (args : Array Value) (ds gs : List (DataW H)) (before : List MemPlace)
 (hval0 : ∀ (j : Nat) t v, Tryz.f4.params[j]? = some t → args[j]? = some v → Value.okWide Tryz.prog W .any base t v)
 (hW : DataW.Whole enc Tryz.prog Tryz.f4.params.toList Rows.gaussZerosSpec.vars false W args.toList ds gs before)
 (hc : Rows.uptoSmall H (ds ++ gs) = true) (hL : laidMetH Tryz.prog Rows.gaussZerosUptoRow.laid W) :
 Calls Tryz.prog 4 args W fun e W' => ∃ v, e = .returned v ∧ Rows.gaussZerosSpec.post enc Tryz.prog Tryz.f4 false true false false W args v W' := by
 have hval : ∀ (j : Nat) t v, Tryz.f4.params[j]? = some t → args[j]? = some v → Value.okWide Tryz.prog W .any base t v := hval0; have hW' := hW; have hlt := fun p hp => hW.lt p hp
 obtain ⟨p, q, hA0, hV0, rfl, hfz, hnd⟩ := hW; have hA : DataW.TrodAll enc Tryz.prog W 0 (fun _ => true) true Tryz.f4.params.toList args.toList ds p := hA0
 have hV : DataW.TrodVars enc Tryz.prog W (fun _ => true) [] gs q := hV0
 rw [Tryz.params4] at hA hval; obtain ⟨rfl, rfl⟩ := trodVars_none hV; obtain ⟨v0, v1, d0, d1, p0, p1, rfl, rfl, rfl, h0, h1⟩ := trodAll_two hA; obtain ⟨x1, y1, u1, z1, rfl, rfl, rfl, ⟨bx1, by1⟩, ⟨bu1, bz1⟩⟩ := open_corners (hval 1 41 v1 rfl rfl) h1; obtain ⟨a0, cap0, l0, rfl, hok0, hpl0, hlen0⟩ := open_places (hval 0 22 v0 rfl rfl) h0; have hVars := vr_of_laid hL; have hb0 := of_decide_eq_true hc; have hb_0 := bulk_one (d0 : DataW H); have hb_1 := bulk_one (dC x1 y1 u1 z1 : DataW H); simp only [List.append_nil, List.cons_append, List.nil_append, Rows.uptoBulkAll] at hb0; refine (lawZeros (hv := ⟨hVars⟩) (cap := cap0) hpl0 (by omega) hok0 bx1 by1 bu1 bz1).mono fun e W' ⟨he, hb⟩ => ?_
 subst he; simp only [List.append_nil, List.nil_append] at hW' hlt; have hold0 : ∀ p ∈ p0, (fun b => decide (b < W.heap.size)) p.block = true := fun p hp => by simpa using hlt p (by simp [hp])
 have hr0 : DataW.Trod enc Tryz.prog W' 0 (fun b => decide (b < W.heap.size)) true 22 (.slice a0 l0.length cap0) d0 p0 := by
  obtain ⟨fuel, hf⟩ := DataW.Trod.respare (spare' := fun b => decide (b < W.heap.size)) kids full (show (22 : Nat) < Tryz.prog.types.size from of_decide_eq_true (by kernel_rfl)) h0 hold0
  refine ⟨fuel, DataW.trod_carry _ _ _ _ hf (fun p hp => ?_)⟩
  have hk : W'.heap[p.block]? = W.heap[p.block]? := hb.out.block _ (by simpa using hold0 p hp)
  cases p with
  | cell b off => exact World.cell?_of_block (w := W) hk
  | map b => exact hk
 refine ⟨_, rfl, _, _, _, [], p0 ++ ([]), [], hW', (trodAll_mk1 (shut_bool Tryz.underlying4 true)), trodAll_mk2 hr0 (shut_corners bx1 by1 bu1 bz1), rfl, World.keptBut_mono (fun p hp => ⟨hp, ?_⟩) (hb.out.frame (· ∈ p0)), fun h => by cases h⟩
 simpa using hp
theorem gaussZeros_lifted (os : Os) (started : os.Started) (H : Type) (enc : TypeId × Value → H) (F : Stop.Interp) :
 ReturnsInHanded {} Tryz.checked os 4 .any ((Rows.OpenSpec.upto Rows.gaussZerosSpec).preRow enc Tryz.prog Tryz.f4 Rows.gaussZerosUptoRow.domain false Rows.gaussZerosUptoRow.laid) (((Rows.OpenSpec.upto Rows.gaussZerosSpec).at F).post enc Tryz.prog Tryz.f4 false true false false) := by
 obtain ⟨places, hx⟩ := gaussZeros_reads os enc
 refine returnsInHanded_of_row (C := Tryz.checked) (s := Rows.OpenSpec.upto Rows.gaussZerosSpec) own started (by kernel_rfl) Tryz.func4
  (witness_row_at (enc := enc) (C := Tryz.checked) false (laidWorld os) #[.slice none 0 0, .agg #[.int .u64 0, .int .u64 0, .int .u64 0, .int .u64 0]] rfl (by kernel_rfl) (by kernel_rfl) (by kernel_rfl)
    (OpenSpec.preRow_of_cond 8 hx (by kernel_rfl) (fun k hk => by cases hk; kernel_rfl) (by kernel_rfl) (laidWorld_met os _))) ?_
 intro W base args ds gs before hval hW _ hcond _ hL _ _; exact gaussZeros_contract H enc W base args ds gs before hval hW (hcond _ rfl) hL
theorem gaussZeros_over : Rows.GaussZerosUptoSaid :=
 OpenClaim.holds_of_cond 4 Tryz.f4 rfl rfl rfl rfl rfl rfl rfl ⟨rfl, rfl, rfl, rfl, rfl⟩ rfl rfl rfl rfl rfl (by kernel_rfl) Tryz.func4 (by kernel_rfl)
  (of_decide_eq_true (by kernel_rfl)) (by unfold Func.isWrapper; first | (rw [if_pos (by decide +kernel)]; kernel_rfl) | (rw [if_neg (by decide +kernel)]; exact ⟨rfl, rfl⟩))
  (fun os started H enc _ F => by rw [OpenClaim.pre_eq_preRow]; exact gaussZeros_lifted os started H enc F)
theorem gaussZeros_holds : Rows.GaussZerosUptoCardSaid :=
 Claim7.holds_tied_plain_at .later [] [.data] true (true, "ef451c615b5b81a19ccbf57d22d5dc934475ce41844b02a4a74bf58eb3e3eb50") false
  gaussZeros_over (fun _ h => by cases h) (by kernel_rfl) (fun _ h => by cases h) gaussZerosUpto_row_tie rfl ⟨rfl, rfl⟩ (by kernel_rfl) rfl
  (fun f fn hf hfn => by
    obtain rfl : f = 4 := Option.some.inj ((show Tryz.prog.funcNamed "eddy/eddylaw03.GaussZeros" = some 4 by kernel_rfl).symm.trans hf) |>.symm
    obtain rfl : fn = Tryz.f4 := (Option.some.inj (Tryz.func4.symm.trans hfn)).symm
    exact ⟨by kernel_rfl, fun j t ht => by
     rw [Tryz.params4] at ht; rcases j with _ | j
     · obtain rfl : t = 22 := by simpa using ht.symm
       exact (show Tryz.prog.wantsStandIn 22 = false by kernel_rfl)
     · skip
       rcases j with _ | j
       · obtain rfl : t = 41 := by simpa using ht.symm
         exact (show Tryz.prog.wantsStandIn 41 = false by kernel_rfl)
       · skip
         simp at ht⟩)
  (by kernel_rfl)
end Go.Proofs.YthjeejnggpjnjaaGreatDoor
