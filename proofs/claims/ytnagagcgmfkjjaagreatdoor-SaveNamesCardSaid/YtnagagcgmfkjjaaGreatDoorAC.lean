/- Values of the plain readers and writers that are asked at the beginning. -/
import Derived.Test.YtnagagcgmfkjjaaGreatDoorY
import Derived.KernelRfl
set_option linter.unusedSimpArgs false
set_option linter.unusedVariables false
namespace Go.Proofs.YtnagagcgmfkjjaaGreatDoor
open Go.RowKit

def litF : By := [101, 100, 100, 121, 32, 102, 108, 111, 119, 32, 49, 10, 101, 108, 101, 109, 101, 110, 116, 115, 32, 48, 10, 115, 117, 109, 32, 54, 49, 48, 53, 51, 53, 49, 98, 97, 51, 57, 54, 52, 98, 98, 53, 10]
def litT : By := [101, 100, 100, 121, 32, 116, 114, 97, 99, 101, 114, 115, 32, 49, 10, 116, 114, 97, 99, 101, 114, 115, 32, 48, 10, 115, 117, 109, 32, 101, 53, 99, 57, 53, 97, 52, 54, 48, 54, 49, 51, 50, 50, 57, 56, 10]
def litN : By := [51, 102, 102, 48, 48, 48, 48, 48, 48, 48, 48, 48, 48, 48, 48, 48, 32, 56, 48, 48, 48, 48, 48, 48, 48, 48, 48, 48, 48, 48, 48, 48, 48]
def litB : By := [101, 100, 100, 121, 32, 102, 108, 111, 119, 32, 50]
theorem decW0 : decW 0 = [48] := by rw [decW, if_pos (by omega)]; rfl
theorem flow_nil : flowW [] = litF := by
  unfold flowW savedW
  rw [List.length_nil, decW0]
  kernel_rfl
theorem tracers_nil : tracersW [] = litT := by
  unfold tracersW savedW
  rw [List.length_nil, decW0]
  kernel_rfl
theorem number_one : floatsW [4607182418800017408, 9223372036854775808] = litN := by kernel_rfl
theorem flowO_nil : flowO [] = (litF, 0) := by
  unfold flowO
  rw [if_pos (show flowChk [] = 0 from rfl), flow_nil]
theorem tracersO_nil : tracersO [] = (litT, 0) := by
  unfold tracersO fitS
  rw [if_neg (by decide), tracers_nil, if_neg (by decide)]
theorem readN_lit : readN litN = ((4607182418800017408, 9223372036854775808), 0, 0) := by kernel_rfl
theorem readF_lit : flowR litF = ([], 0, 0) := by kernel_rfl
theorem readT_lit : tracersR litT = ([], 0, 0) := by kernel_rfl
theorem readF_bad : flowR litB = ([], 290, 10) := by kernel_rfl
theorem readW_bad : whirlsR litF = ([], 290, 5) := by kernel_rfl
end Go.Proofs.YtnagagcgmfkjjaaGreatDoor
