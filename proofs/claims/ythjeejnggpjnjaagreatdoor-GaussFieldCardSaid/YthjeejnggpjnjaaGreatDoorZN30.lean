/- GaussNear and GaussField return true for every input: the given cards. -/
import Derived.Test.YthjeejnggpjnjaaGreatDoorZN27
import Derived.Test.YthjeejnggpjnjaaGreatDoorZN29
import Derived.Test.YthjeejnggpjnjaaGreatDoorTie
import Derived.Test.YthjeejnggpjnjaaGreatDoorCards
import Derived.SevenTiedAt
import Derived.Below
import Derived.Carry
set_option linter.unusedSimpArgs false
set_option linter.unusedVariables false
set_option maxRecDepth 100000
set_option maxHeartbeats 16000000
set_option synthInstance.maxHeartbeats 2000000
set_option synthInstance.maxSize 100000
namespace Go.Proofs.YthjeejnggpjnjaaGreatDoor
open Go.RowKit
open Go.ChangeShapes Go.WideShapes Go.ChangeAt Go.RowKit
theorem gaussField_lifted (os : Os) (started : os.Started) (H : Type) (enc : TypeId × Value → H) :
 ReturnsInHanded {} Tryz.checked os 9 .any (fun w args => (Rows.gaussFieldSpec.pre enc Tryz.prog Tryz.f9 [] false w args ∧ laidMetH Tryz.prog Rows.gaussFieldRow.laid w) ∧ sizedMet enc Tryz.prog Tryz.f9 (OpenSpec.ofChange Rows.gaussFieldSpec) false w args)
  (Rows.gaussFieldSpec.post enc Tryz.prog Tryz.f9 false true false false) := by
 refine returnsInHanded_of_change_and (C := Tryz.checked) (X := fun w _ => laidMetH Tryz.prog Rows.gaussFieldRow.laid w) (fun _ _ _ hh h => h.of_heap hh) own started (by kernel_rfl) Tryz.func9
  (ChangeSpec.witness_at (enc := enc) (C := Tryz.checked) (os := os) (X := fun w _ => laidMetH Tryz.prog Rows.gaussFieldRow.laid w) false (laidWorld os) #[.agg #[.string ⟨#[]⟩, .string ⟨#[]⟩, .string ⟨#[]⟩, .string ⟨#[]⟩], .agg #[.string ⟨#[]⟩, .string ⟨#[]⟩, .string ⟨#[]⟩, .string ⟨#[]⟩], .agg #[.string ⟨#[]⟩, .string ⟨#[]⟩, .string ⟨#[]⟩, .string ⟨#[]⟩]] 8 rfl (by kernel_rfl) (by kernel_rfl) (by kernel_rfl) (by kernel_rfl) (by kernel_rfl) (laidWorld_met os _)) ?_
 intro W base args ds gs before hval0 hW _ _ hL _; have hval : ∀ (j : Nat) t v, Tryz.f9.params[j]? = some t → args[j]? = some v → Value.okWide Tryz.prog W .any base t v := hval0; have hW' := hW; obtain ⟨p, q, hA0, hV0, rfl, hfz, hnd⟩ := hW; have hA : DataW.TrodAll enc Tryz.prog W 0 (fun _ => true) true Tryz.f9.params.toList args.toList ds p := hA0
 have hV : DataW.TrodVars enc Tryz.prog W (fun _ => true) [] gs q := hV0
 rw [Tryz.params9] at hA hval; obtain ⟨v0, v1, v2, d0, d1, d2, p0, p1, p2, rfl, rfl, rfl, h0, h1, h2⟩ := trodAll_three hA; obtain ⟨a0, b0, c0, e0, rfl, rfl, rfl, ⟨sa0, sb0⟩, ⟨sc0, sd0⟩⟩ := open_exact (hval 0 33 v0 rfl rfl) h0; obtain ⟨a1, b1, c1, e1, rfl, rfl, rfl, ⟨sa1, sb1⟩, ⟨sc1, sd1⟩⟩ := open_exact (hval 1 33 v1 rfl rfl) h1; obtain ⟨a2, b2, c2, e2, rfl, rfl, rfl, ⟨sa2, sb2⟩, ⟨sc2, sd2⟩⟩ := open_exact (hval 2 33 v2 rfl rfl) h2; have hVars := vr_of_laid hL; obtain ⟨rfl, rfl⟩ := trodVars_none hV; haveI : SzC a0 := ⟨sa0⟩; haveI : SzC b0 := ⟨sb0⟩; haveI : SzC c0 := ⟨sc0⟩; haveI : SzC e0 := ⟨sd0⟩; haveI : SzC a1 := ⟨sa1⟩; haveI : SzC b1 := ⟨sb1⟩; haveI : SzC c1 := ⟨sc1⟩; haveI : SzC e1 := ⟨sd1⟩; haveI : SzC a2 := ⟨sa2⟩; haveI : SzC b2 := ⟨sb2⟩; haveI : SzC c2 := ⟨sc2⟩; haveI : SzC e2 := ⟨sd2⟩; refine (lawField (hv := ⟨hVars⟩)).mono fun e W' ⟨he, hb⟩ => ?_
 subst he; have hfn0 : Rows.gaussFieldSpec.fn H ([dE a0 b0 c0 e0, dE a1 b1 c1 e1, dE a2 b2 c2 e2] ++ []) = { results := [.lit (.bool true)], args := [dE a0 b0 c0 e0, dE a1 b1 c1 e1, dE a2 b2 c2 e2] } := by simp [Rows.gaussFieldSpec]
 have hres : ∀ (b : Nat) (sp : Nat → Bool) (hd : Bool), DataW.TrodAll enc Tryz.prog W' b sp hd Tryz.f9.resultTypes.toList ((Value.bool true).resultList Tryz.f9.resultTypes.size) [.lit (.bool true)] [] := fun _ _ _ => trodAll_mk1 (shut_bool Tryz.underlying4 true)
 have harg : ∀ (b : Nat) (sp : Nat → Bool) (hd : Bool), DataW.TrodAll enc Tryz.prog W' b sp hd Tryz.f9.params.toList (#[.agg #[.string a0, .string b0, .string c0, .string e0], .agg #[.string a1, .string b1, .string c1, .string e1], .agg #[.string a2, .string b2, .string c2, .string e2]] : Array Value).toList [dE a0 b0 c0 e0, dE a1 b1 c1 e1, dE a2 b2 c2 e2] ([] ++ [] ++ []) := fun _ _ _ => trodAll_mk3 (shut_exact sa0 sb0 sc0 sd0) (shut_exact sa1 sb1 sc1 sd1) (shut_exact sa2 sb2 sc2 sd2)
 refine ⟨_, rfl, _, _, _, [], [] ++ [] ++ [], [], hW', ?_, ?_, ?_, World.keptBut_mono (fun p hp => by cases hp) (hb.out.frame (· ∈ ([] : List MemPlace))), ?_⟩
 · rw [hfn0]; exact hres _ _ _
 · rw [hfn0]; exact harg _ _ _
 · rw [hfn0]; rfl
 · exact fun h => by cases h
theorem gaussField_over : Rows.GaussFieldSaid :=
 OpenClaim.holds_of_wide 9 Tryz.f9 rfl rfl rfl rfl rfl rfl rfl ⟨rfl, rfl, rfl, rfl, rfl⟩ rfl rfl rfl rfl rfl (by kernel_rfl) Tryz.func9 (by kernel_rfl)
  (of_decide_eq_true (by kernel_rfl)) (by unfold Func.isWrapper; first | (rw [if_pos (by decide +kernel)]; kernel_rfl) | (rw [if_neg (by decide +kernel)]; exact ⟨rfl, rfl⟩))
  (fun os started H enc _ => gaussField_lifted os started H enc)
theorem gaussField_holds : Rows.GaussFieldCardSaid :=
 Claim7.holds_tied_plain_at .later [] [.data] true (true, "ef451c615b5b81a19ccbf57d22d5dc934475ce41844b02a4a74bf58eb3e3eb50") false
  gaussField_over (fun _ h => by cases h) (by kernel_rfl) (fun _ h => by cases h) gaussField_row_tie rfl ⟨rfl, rfl⟩ (by kernel_rfl) rfl
  (fun f fn hf hfn => by
    obtain rfl : f = 9 := Option.some.inj ((show Tryz.prog.funcNamed "eddy/eddylaw03.GaussField" = some 9 by kernel_rfl).symm.trans hf) |>.symm
    obtain rfl : fn = Tryz.f9 := (Option.some.inj (Tryz.func9.symm.trans hfn)).symm
    exact ⟨by kernel_rfl, fun j t ht => by
     rw [Tryz.params9] at ht; rcases j with _ | j
     · obtain rfl : t = 33 := by simpa using ht.symm
       exact (show Tryz.prog.wantsStandIn 33 = false by kernel_rfl)
     · skip
       rcases j with _ | j
       · obtain rfl : t = 33 := by simpa using ht.symm
         exact (show Tryz.prog.wantsStandIn 33 = false by kernel_rfl)
       · skip
         rcases j with _ | j
         · obtain rfl : t = 33 := by simpa using ht.symm
           exact (show Tryz.prog.wantsStandIn 33 = false by kernel_rfl)
         · skip
           simp at ht⟩)
  (by kernel_rfl)
end Go.Proofs.YthjeejnggpjnjaaGreatDoor
