/- GaussOps returns true for every input: the given card. -/
import Derived.Test.YthjeejnggpjnjaaGreatDoorZO28
import Derived.Test.YthjeejnggpjnjaaGreatDoorZO29
import Derived.Test.YthjeejnggpjnjaaGreatDoorTie
import Derived.Test.YthjeejnggpjnjaaGreatDoorCards
import Derived.SevenTiedAt
import Derived.Below
import Derived.Carry
set_option linter.unusedSimpArgs false
set_option linter.unusedVariables false
set_option maxRecDepth 100000
set_option maxHeartbeats 16000000
namespace Go.Proofs.YthjeejnggpjnjaaGreatDoor
open Go.RowKit
open Go.ChangeShapes Go.WideShapes Go.ChangeAt Go.RowKit
theorem gaussOps_lifted (os : Os) (started : os.Started) (H : Type) (enc : TypeId × Value → H) :
 ReturnsInHanded {} Tryz.checked os 11 .any (fun w args => (Rows.gaussOpsSpec.pre enc Tryz.prog Tryz.f11 [] false w args ∧ laidMetH Tryz.prog Rows.gaussOpsRow.laid w) ∧ sizedMet enc Tryz.prog Tryz.f11 (OpenSpec.ofChange Rows.gaussOpsSpec) false w args)
  (Rows.gaussOpsSpec.post enc Tryz.prog Tryz.f11 false true false false) := by
 refine returnsInHanded_of_change_and (C := Tryz.checked) (X := fun w _ => laidMetH Tryz.prog Rows.gaussOpsRow.laid w) (fun _ _ _ hh h => h.of_heap hh) own started (by kernel_rfl) Tryz.func11
  (ChangeSpec.witness_at (enc := enc) (C := Tryz.checked) (os := os) (X := fun w _ => laidMetH Tryz.prog Rows.gaussOpsRow.laid w) false (laidWorld os) #[.agg #[.string ⟨#[]⟩, .string ⟨#[]⟩, .string ⟨#[]⟩, .string ⟨#[]⟩], .agg #[.string ⟨#[]⟩, .string ⟨#[]⟩, .string ⟨#[]⟩, .string ⟨#[]⟩]] 8 rfl (by kernel_rfl) (by kernel_rfl) (by kernel_rfl) (by kernel_rfl) (by kernel_rfl) (laidWorld_met os _)) ?_
 intro W base args ds gs before hval0 hW _ _ hL _; have hval : ∀ (j : Nat) t v, Tryz.f11.params[j]? = some t → args[j]? = some v → Value.okWide Tryz.prog W .any base t v := hval0; have hW' := hW; obtain ⟨p, q, hA0, hV0, rfl, hfz, hnd⟩ := hW; have hA : DataW.TrodAll enc Tryz.prog W 0 (fun _ => true) true Tryz.f11.params.toList args.toList ds p := hA0
 have hV : DataW.TrodVars enc Tryz.prog W (fun _ => true) [] gs q := hV0
 rw [Tryz.params11] at hA hval; obtain ⟨v0, v1, d0, d1, p0, p1, rfl, rfl, rfl, h0, h1⟩ := trodAll_two hA; obtain ⟨a0, b0, c0, e0, rfl, rfl, rfl, ⟨sa0, sb0⟩, ⟨sc0, sd0⟩⟩ := open_exact (hval 0 33 v0 rfl rfl) h0; obtain ⟨a1, b1, c1, e1, rfl, rfl, rfl, ⟨sa1, sb1⟩, ⟨sc1, sd1⟩⟩ := open_exact (hval 1 33 v1 rfl rfl) h1; have hVars := vr_of_laid hL; obtain ⟨rfl, rfl⟩ := trodVars_none hV; haveI : SzC a0 := ⟨sa0⟩; haveI : SzC b0 := ⟨sb0⟩; haveI : SzC c0 := ⟨sc0⟩; haveI : SzC e0 := ⟨sd0⟩; haveI : SzC a1 := ⟨sa1⟩; haveI : SzC b1 := ⟨sb1⟩; haveI : SzC c1 := ⟨sc1⟩; haveI : SzC e1 := ⟨sd1⟩; refine (lawOps (hv := ⟨hVars⟩)).mono fun e W' ⟨he, hb⟩ => ?_
 subst he; have hfn0 : Rows.gaussOpsSpec.fn H ([dE a0 b0 c0 e0, dE a1 b1 c1 e1] ++ []) = { results := [.lit (.bool true)], args := [dE a0 b0 c0 e0, dE a1 b1 c1 e1] } := by simp [Rows.gaussOpsSpec]
 have hres : ∀ (b : Nat) (sp : Nat → Bool) (hd : Bool), DataW.TrodAll enc Tryz.prog W' b sp hd Tryz.f11.resultTypes.toList ((Value.bool true).resultList Tryz.f11.resultTypes.size) [.lit (.bool true)] [] := fun _ _ _ => trodAll_mk1 (shut_bool Tryz.underlying4 true)
 have harg : ∀ (b : Nat) (sp : Nat → Bool) (hd : Bool), DataW.TrodAll enc Tryz.prog W' b sp hd Tryz.f11.params.toList (#[.agg #[.string a0, .string b0, .string c0, .string e0], .agg #[.string a1, .string b1, .string c1, .string e1]] : Array Value).toList [dE a0 b0 c0 e0, dE a1 b1 c1 e1] ([] ++ []) := fun _ _ _ => trodAll_mk2 (shut_exact sa0 sb0 sc0 sd0) (shut_exact sa1 sb1 sc1 sd1)
 refine ⟨_, rfl, _, _, _, [], [] ++ [], [], hW', ?_, ?_, ?_, World.keptBut_mono (fun p hp => by cases hp) (hb.out.frame (· ∈ ([] : List MemPlace))), ?_⟩
 · rw [hfn0]; exact hres _ _ _
 · rw [hfn0]; exact harg _ _ _
 · rw [hfn0]; rfl
 · exact fun h => by cases h
theorem gaussOps_over : Rows.GaussOpsSaid :=
 OpenClaim.holds_of_wide 11 Tryz.f11 rfl rfl rfl rfl rfl rfl rfl ⟨rfl, rfl, rfl, rfl, rfl⟩ rfl rfl rfl rfl rfl (by kernel_rfl) Tryz.func11 (by kernel_rfl)
  (of_decide_eq_true (by kernel_rfl)) (by unfold Func.isWrapper; first | (rw [if_pos (by decide +kernel)]; kernel_rfl) | (rw [if_neg (by decide +kernel)]; exact ⟨rfl, rfl⟩))
  (fun os started H enc _ => gaussOps_lifted os started H enc)
theorem gaussOps_holds : Rows.GaussOpsCardSaid :=
 Claim7.holds_tied_plain_at .later [] [.data] true (true, "ef451c615b5b81a19ccbf57d22d5dc934475ce41844b02a4a74bf58eb3e3eb50") false
  gaussOps_over (fun _ h => by cases h) (by kernel_rfl) (fun _ h => by cases h) gaussOps_row_tie rfl ⟨rfl, rfl⟩ (by kernel_rfl) rfl
  (fun f fn hf hfn => by
    obtain rfl : f = 11 := Option.some.inj ((show Tryz.prog.funcNamed "eddy/eddylaw03.GaussOps" = some 11 by kernel_rfl).symm.trans hf) |>.symm
    obtain rfl : fn = Tryz.f11 := (Option.some.inj (Tryz.func11.symm.trans hfn)).symm
    exact ⟨by kernel_rfl, fun j t ht => by
     rw [Tryz.params11] at ht; rcases j with _ | j
     · obtain rfl : t = 33 := by simpa using ht.symm
       exact (show Tryz.prog.wantsStandIn 33 = false by kernel_rfl)
     · skip
       rcases j with _ | j
       · obtain rfl : t = 33 := by simpa using ht.symm
         exact (show Tryz.prog.wantsStandIn 33 = false by kernel_rfl)
       · skip
         simp at ht⟩)
  (by kernel_rfl)
end Go.Proofs.YthjeejnggpjnjaaGreatDoor
