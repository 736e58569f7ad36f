/- 'eddylaw13.CountNames' returns true: the given statement, for the whole of it. Conditions: none beyond the statement's own. -/
import Derived.Test.YtbocjicihamahaaRows
import Derived.Test.YtbocjicihamahaaY6
import Derived.ProofKit
import Derived.OpenShut
import Derived.Below
import Derived.ChangeSame
set_option linter.unusedSimpArgs false
set_option linter.unusedVariables false
namespace Go.Proofs.Ytbocjicihamahaa.countNames
open Go.ChangeShapes Go.WideShapes Go.ChangeAt Go.RowKit

theorem own : ownKnob Try.prog.godebug = none := by kernel_rfl
set_option maxRecDepth 100000 in
theorem lifted (os : Os) (started : os.Started) (H : Type) (enc : TypeId × Value → H) :
    ReturnsInHanded {} Try.checked os 3 .any (Rows.countNamesSpec.pre6 enc Try.prog Try.f3 Rows.countNamesRow.domain false) (Rows.countNamesSpec.post enc Try.prog Try.f3 false true false false) := by
  refine returnsInHanded_of_change (C := Try.checked) own started (by kernel_rfl) Try.func3
    (ChangeSpec.witness6 (enc := enc) (C := Try.checked) false ⟨#[], #[], []⟩ 8 (by kernel_rfl) (by kernel_rfl) (by kernel_rfl) (by kernel_rfl)) ?_
  intro W base args ds gs before hval0 hW hcnd _
  have hW' := hW
  obtain ⟨p, q, hA0, hV, rfl, hfz, hnd⟩ := hW
  have hA : DataW.TrodAll enc Try.prog W 0 (fun _ => true) true Try.f3.params.toList args.toList ds p := hA0
  rw [Try.params3] at hA
  obtain ⟨rfl, rfl, rfl⟩ := trodAll_none hA
  obtain ⟨rfl, rfl⟩ := trodVars_none hV
  clear hA0 hval0
  simp only [List.append_nil] at hW'
  refine (names_any W).mono fun e W' ⟨he, hg⟩ => ?_
  subst he
  have hres : ∀ (b : Nat) (sp : Nat → Bool) (hd : Bool), DataW.TrodAll enc Try.prog W' b sp hd Try.f3.resultTypes.toList ((Value.bool true).resultList Try.f3.resultTypes.size) [.lit (.bool true)] [] := fun _ _ _ => (trodAll_cons_mk (shut_bool Try.underlying4 _) trodAll_mk0)
  exact ⟨_, rfl, [], [], [], [], [], [], hW', hres _ _ _, rfl, rfl, World.keptBut_mono (fun p hp => by cases hp) (hg.frame (· ∈ ([] : List MemPlace))), fun _ =>
    ⟨ok_one (by kernel_rfl) rfl (okWide_bool_mk Try.underlying4 _), _, [], [], ⟨[], [], hres _ _ _, rfl, rfl, fun b off hp => (by cases hp), fun _ => List.nodup_nil⟩, fun p hp _ => by cases hp⟩⟩
theorem over : Rows.countNamesRow.holds Try.pinned (OpenSpec.ofChange Rows.countNamesSpec) :=
  OpenClaim.holds_of_wide 3 Try.f3 rfl rfl rfl rfl rfl rfl rfl ⟨rfl, rfl, rfl, rfl, rfl⟩ rfl rfl rfl rfl rfl (by kernel_rfl) Try.func3 (by kernel_rfl)
    (of_decide_eq_true (by kernel_rfl)) (by unfold Func.isWrapper; first | (rw [if_pos (by decide +kernel)]; kernel_rfl) | (rw [if_neg (by decide +kernel)]; exact ⟨rfl, rfl⟩))
    (fun os started H enc _ => lifted os started H enc)
/-- The statement. -/
theorem count_names_holds : Rows.CountNamesSaid := over
end Go.Proofs.Ytbocjicihamahaa.countNames
