/- Closed values. -/
import Derived.Test.YtbocjicihamahaaO
set_option linter.unusedSimpArgs false
set_option linter.unusedVariables false
namespace Go.Proofs.Ytbocjicihamahaa
open Go.RowKit

def b2 : Bx := ((13835058055282163712, 13835058055282163712), (4611686018427387904, 4611686018427387904))
theorem ev_const : zerosS [(4617315517961601024, 0)] b2 0 = some (0, 0) := by kernel_rfl
theorem ev_n : zerosS [(13830554455654793216, 0), (0, 0), (0, 0), (4607182418800017408, 0)] b2 8 = some (3, 0) := by kernel_rfl
theorem ev_k : zerosS [(0, 0), (0, 0), (4607182418800017408, 0)] b2 8 = some (2, 0) := by kernel_rfl
theorem ev_h : zerosS [(13835058055282163712, 0), (4607182418800017408, 0)] b2 24 = some (0, 130) := by kernel_rfl
theorem ev_i : zerosS [(4607182418800017408, 0), (0, 0), (4607182418800017408, 0)] b2 0 = some (0, 130) := by kernel_rfl
end Go.Proofs.Ytbocjicihamahaa
