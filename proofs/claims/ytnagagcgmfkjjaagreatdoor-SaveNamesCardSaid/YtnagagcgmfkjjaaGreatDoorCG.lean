/- SaveNames returns true: the given card. Conditions: none beyond the statement's own. -/
import Derived.Test.YtnagagcgmfkjjaaGreatDoorCF
import Derived.Test.YtnagagcgmfkjjaaGreatDoorAE
import Derived.Test.YtnagagcgmfkjjaaGreatDoorTie
import Derived.Test.YtnagagcgmfkjjaaGreatDoorCards
import Derived.SevenTiedAt
import Derived.OpenShut
import Derived.Below
import Derived.ChangeMaps5
set_option linter.unusedSimpArgs false
set_option linter.unusedVariables false
namespace Go.Proofs.YtnagagcgmfkjjaaGreatDoor
open Go.RowKit
open Go.ChangeShapes Go.WideShapes Go.ChangeAt Go.RowKit
set_option maxRecDepth 100000 in
theorem saveNames_lifted (os : Os) (started : os.Started) (H : Type) (enc : TypeId × Value → H) :
    ReturnsInHanded {} Tryz.checked os 4 .any (fun w args => (Rows.saveNamesSpec.pre enc Tryz.prog Tryz.f4 [] false w args ∧ laidMetH Tryz.prog Rows.saveNamesRow.laid w) ∧ sizedMet enc Tryz.prog Tryz.f4 (OpenSpec.ofChange Rows.saveNamesSpec) false w args)
      (Rows.saveNamesSpec.post enc Tryz.prog Tryz.f4 false true false false) := by
  refine returnsInHanded_of_change_and (C := Tryz.checked) (X := fun w _ => laidMetH Tryz.prog Rows.saveNamesRow.laid w) (fun _ _ _ hh h => h.of_heap hh) own started (by kernel_rfl) Tryz.func4
    (ChangeSpec.witness_at (enc := enc) (C := Tryz.checked) (os := os) (X := fun w _ => laidMetH Tryz.prog Rows.saveNamesRow.laid w) false (laidWorld os) #[] 8 rfl (by kernel_rfl) (by kernel_rfl) (by kernel_rfl) (by kernel_rfl) (by kernel_rfl) (laidWorld_met os _)) ?_
  intro W base args ds gs before hval0 hW _ _ hL _
  have hW' := hW
  obtain ⟨p, q, hA0, hV0, rfl, hfz, hnd⟩ := hW
  have hA : DataW.TrodAll enc Tryz.prog W 0 (fun _ => true) true Tryz.f4.params.toList args.toList ds p := hA0
  have hV : DataW.TrodVars enc Tryz.prog W (fun _ => true) [] gs q := hV0
  rw [Tryz.params4] at hA
  obtain ⟨rfl, rfl, rfl⟩ := trodAll_none hA
  have hVars := vars_of_laid hL
  obtain ⟨rfl, rfl⟩ := trodVars_none hV
  refine (saveNames_any W hVars).mono fun e W' ⟨he, hb⟩ => ?_
  subst he
  have e1 : Rows.saveNamesSpec.fn H ([] ++ []) = { results := [.lit (.bool true)], args := [] } := by simp [Rows.saveNamesSpec]
  have hres : ∀ (b : Nat) (sp : Nat → Bool) (hd : Bool), DataW.TrodAll enc Tryz.prog W' b sp hd Tryz.f4.resultTypes.toList ((Value.bool true).resultList Tryz.f4.resultTypes.size) [.lit (.bool true)] [] := fun _ _ _ => trodAll_mk1 (shut_bool Tryz.underlying4 true)
  refine ⟨_, rfl, _, _, _, [], [], [], hW', ?_, ?_, ?_, World.keptBut_mono (fun p hp => by cases hp) (hb.frame (· ∈ ([] : List MemPlace))), ?_⟩
  · rw [e1]; exact hres _ _ _
  · rw [e1]; exact trodAll_mk0
  · rw [e1]; rfl
  · exact fun h => by cases h
theorem saveNames_over : Rows.SaveNamesSaid :=
  OpenClaim.holds_of_wide 4 Tryz.f4 rfl rfl rfl rfl rfl rfl rfl ⟨rfl, rfl, rfl, rfl, rfl⟩ rfl rfl rfl rfl rfl (by kernel_rfl) Tryz.func4 (by kernel_rfl)
    (of_decide_eq_true (by kernel_rfl)) (by unfold Func.isWrapper; first | (rw [if_pos (by decide +kernel)]; kernel_rfl) | (rw [if_neg (by decide +kernel)]; exact ⟨rfl, rfl⟩))
    (fun os started H enc _ => saveNames_lifted os started H enc)
theorem save_names_holds : Rows.SaveNamesCardSaid :=
  Claim7.holds_tied_plain_at .later [] [.data, .data, .data, .handle, .sentinel, .sentinel] true (true, "af31d3d1eae3de7ff502525c92baffebd15ef4f25763b17f8d5a6a4354e9df9e") true
    saveNames_over (fun _ h => by cases h) (by kernel_rfl) (fun _ h => by cases h) saveNames_row_tie rfl ⟨rfl, rfl⟩ (by kernel_rfl) rfl
    (fun f fn hf hfn => by
      obtain rfl : f = 4 := Option.some.inj ((show Tryz.prog.funcNamed "eddy/eddylaw29.SaveNames" = some 4 by kernel_rfl).symm.trans hf) |>.symm
      obtain rfl : fn = Tryz.f4 := (Option.some.inj (Tryz.func4.symm.trans hfn)).symm
      exact ⟨by kernel_rfl, fun j t ht => by
        rw [Tryz.params4] at ht
        rcases j with _ | j
        · simp at ht
        · simp at ht⟩)
    (by kernel_rfl)
end Go.Proofs.YtnagagcgmfkjjaaGreatDoor
