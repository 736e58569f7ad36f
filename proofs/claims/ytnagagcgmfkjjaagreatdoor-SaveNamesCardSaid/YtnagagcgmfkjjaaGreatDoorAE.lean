/- What the statements' conditions on variables give. -/
import Derived.Test.YtnagagcgmfkjjaaGreatDoorK
import Derived.Test.YtnagagcgmfkjjaaGreatDoorRows
import Derived.ProofKit
import Derived.ChangeSame
import Derived.ChangeVars
import Derived.JoinedOf
import Derived.RowKit
import Derived.RowKitTokens
import Derived.LaidLaws
import Derived.LaidHandle
import Derived.Stop.Joined
import Derived.Stop.LaidErr
import Derived.Lay
import Derived.Lib.LaidTab
set_option linter.unusedSimpArgs false
set_option linter.unusedVariables false
namespace Go.Proofs.YtnagagcgmfkjjaaGreatDoor
open Go.RowKit

open Go.ChangeShapes Go.WideShapes Go.RowKit Go.Stop
theorem own : ownKnob Tryz.prog.godebug = none := by kernel_rfl
theorem g_et : Tryz.prog.globalNamed "errors.errorType" = some 1 := by kernel_rfl
theorem g_es : Tryz.prog.globalNamed "strconv.ErrSyntax" = some 2 := by kernel_rfl
theorem g_er : Tryz.prog.globalNamed "strconv.ErrRange" = some 3 := by kernel_rfl
theorem g_db : Tryz.prog.globalNamed "math/bits.deBruijn64tab" = some 7 := by kernel_rfl
theorem t_es : (Tryz.prog.globals[2]?).map (·.type) = some 27 := by kernel_rfl
theorem t_er : (Tryz.prog.globals[3]?).map (·.type) = some 27 := by kernel_rfl
theorem t_db : (Tryz.prog.globals[7]?).map (·.type) = some 210 := by kernel_rfl
theorem t_pw : (Tryz.prog.globals[4]?).map (·.type) = some 201 := by kernel_rfl
theorem c_207 : Tryz.prog.cellsOf 207 = 1 := by kernel_rfl
theorem c_9 : Tryz.prog.cellsOf 9 = 1 := by kernel_rfl
theorem c_5 : Tryz.prog.cellsOf 5 = 1 := by kernel_rfl
theorem c_72 : Tryz.prog.cellsOf 72 = 1 := by kernel_rfl
theorem c_210 : Tryz.prog.cellsOf 210 = 64 := by kernel_rfl
theorem c_201 : Tryz.prog.cellsOf 201 = 20 := by kernel_rfl
theorem star : "*" ++ "errors.errorString" = "*errors.errorString" := by decide
theorem row205 (u : TypeId) (h : Tryz.prog.typeName? 3 u = some "*errors.errorString") : u = 205 :=
  typeName_ptr_named (nm := "errors.errorString") (by rw [star]; kernel_rfl) (by kernel_rfl) (by decide) u (by rw [star]; exact h)
theorem rt : (Tryz.prog.cutTypes.find? (·.1 == "internal/reflectlite.rtype")).map (·.2) = some 160 := by kernel_rfl
theorem oneRow : ((List.range 237).filter fun t => Tryz.prog.rowNamed t [101, 114, 114, 111, 114]) = [27] := by kernel_rfl
theorem tsize : Tryz.prog.types.size = 237 := by kernel_rfl
def z64 : List Int := [0, 1, 56, 2, 57, 49, 28, 3, 61, 58, 42, 50, 38, 29, 17, 4, 62, 47, 59, 36, 45, 43, 51, 22, 53, 39, 33, 30, 24, 18, 12, 5, 63, 55, 48, 27, 60, 41, 37, 16, 46, 35, 44, 21, 52, 32, 23, 11, 54, 26, 40, 15, 34, 20, 31, 10, 25, 14, 19, 9, 13, 8, 7, 6]
/-- What is listed, but for the handle. -/
def plainLaid : List (String × DataW Unit) := [("math/bits.deBruijn32tab", Rows.laid_math_bits_deBruijn32tab), ("math/bits.deBruijn64tab", Rows.laid_math_bits_deBruijn64tab), ("internal/strconv.uint64pow10", Rows.laid_internal_strconv_uint64pow10), ("strconv.ErrRange", Rows.laid_strconv_ErrRange), ("strconv.ErrSyntax", Rows.laid_strconv_ErrSyntax)]
def allLaid : List (String × DataW Unit) := [("math/bits.deBruijn32tab", Rows.laid_math_bits_deBruijn32tab), ("math/bits.deBruijn64tab", Rows.laid_math_bits_deBruijn64tab), ("internal/strconv.uint64pow10", Rows.laid_internal_strconv_uint64pow10), ("errors.errorType", Rows.laid_errors_errorType), ("strconv.ErrRange", Rows.laid_strconv_ErrRange), ("strconv.ErrSyntax", Rows.laid_strconv_ErrSyntax)]
theorem laid_split {W : World} (h : laidMetH Tryz.prog allLaid W) : laidMet Tryz.prog plainLaid W ∧ handlesMet Tryz.prog [("errors.errorType", Rows.laid_errors_errorType)] W := by
  have e1 : (allLaid.filter fun x => x.2.handleName?.isSome) = [("errors.errorType", Rows.laid_errors_errorType)] := by rfl
  have e2 : (allLaid.filter fun x => x.2.handleName?.isNone) = plainLaid := by rfl
  unfold laidMetH at h
  rw [e1] at h
  simp only [e2] at h
  exact h
/-- What the statement's condition gives a walk. -/
theorem vars_of_laid {W : World} (h : laidMetH Tryz.prog allLaid W) : Vars W := by
  obtain ⟨hp, hh⟩ := laid_split h
  have h1 := hp.tail
  have h2 := h1.tail
  have h3 := h2.tail
  have h4 := h3.tail
  refine ⟨?_, ?_, ?_, ?_, ?_⟩
  · obtain ⟨a, s, hv, -⟩ := laid_sentinel h4 g_es t_es Tryz.underlying27 row205 Tryz.underlying205 Tryz.underlying207 rfl rfl Tryz.underlying9 c_207 c_9
    exact ⟨_, _, by simpa using World.var?_cell g_es hv 0⟩
  · obtain ⟨a, s, hv, -⟩ := laid_sentinel h3 g_er t_er Tryz.underlying27 row205 Tryz.underlying205 Tryz.underlying207 rfl rfl Tryz.underlying9 c_207 c_9
    exact ⟨_, _, by simpa using World.var?_cell g_er hv 0⟩
  · have e : Rows.laid_math_bits_deBruijn64tab = Lib.tabData (H := Unit) .u8 z64 := by rfl
    have h1' : laidMet Tryz.prog (("math/bits.deBruijn64tab", Lib.tabData .u8 z64) :: [("internal/strconv.uint64pow10", Rows.laid_internal_strconv_uint64pow10), ("strconv.ErrRange", Rows.laid_strconv_ErrRange), ("strconv.ErrSyntax", Rows.laid_strconv_ErrSyntax)]) W := by
      rw [← e]; exact h1
    have ht := Lib.tabIs_of_head g_db t_db Tryz.underlying210 Tryz.underlying5 c_5 c_210 h1'
    exact ht.cell g_db 15 (by decide)
  · have e : Rows.laid_internal_strconv_uint64pow10 = Lib.tabData (H := Unit) .u64 Lib.pow10Tab := by kernel_rfl
    have h2' : laidMet Tryz.prog (("internal/strconv.uint64pow10", Lib.tabData .u64 Lib.pow10Tab) :: [("strconv.ErrRange", Rows.laid_strconv_ErrRange), ("strconv.ErrSyntax", Rows.laid_strconv_ErrSyntax)]) W := by
      rw [← e]; exact h2
    exact Lib.tabIs_of_head tab_named t_pw Tryz.underlying201 Tryz.underlying72 c_72 c_201 h2'
  · obtain ⟨name, u, ty, e1, e2, e3, e4, e5⟩ := hh _ (List.mem_singleton.2 rfl)
    have en : name = [101, 114, 114, 111, 114] := (Option.some.inj e1).symm
    subst en
    obtain rfl := Option.some.inj (rt.symm.trans e2)
    have hm : ty ∈ (List.range 237).filter fun t => Tryz.prog.rowNamed t [101, 114, 114, 111, 114] := List.mem_filter.2 ⟨List.mem_range.2 (by rw [← tsize]; exact e3), e4⟩
    rw [oneRow] at hm
    obtain rfl := List.mem_singleton.1 hm
    have hth : typeHandle Tryz.prog 27 = .pointer (some ⟨8, 27, none⟩) := by kernel_rfl
    rw [hth] at e5
    simpa using World.var?_cell g_et e5 0
/-- A world that meets the condition. -/
noncomputable def laidWorld (os : Os) : World :=
  let w0 := World.laidAll Tryz.prog os plainLaid
  { w0 with heap := w0.heap.modify 1 fun
      | .cells _ t frozen => .cells #[.iface 160 (.agg #[.pointer (some ⟨8, 27, none⟩)])] t frozen
      | o => o }
theorem laidWorld_met (os : Os) (args : Array Value) : laidMetH Tryz.prog allLaid ((laidWorld os).forCall (fun _ _ => 0) ⟨#[], args, []⟩).memory :=
  laidMetH_of_parts (laidMet_of_run' 8 (by kernel_rfl) (by kernel_rfl)) (by kernel_rfl)
end Go.Proofs.YtnagagcgmfkjjaaGreatDoor
