/- Closed values. -/
import Derived.Test.YtbocjicihamahaaQ
set_option linter.unusedSimpArgs false
set_option linter.unusedVariables false
namespace Go.Proofs.Ytbocjicihamahaa
open Go.RowKit

def bh : Bx := ((13826050856027422720, 13826050856027422720), (4602678819172646912, 4602678819172646912))
abbrev one : Nat := 4607182418800017408
theorem ev_a1 : zerosS [(4607182418800017408, 0), (0, 0), (4607182418800017408, 0)] b2 8 = some (2, 0) := by kernel_rfl
theorem ev_a2 : zerosS [(4607182418800017408, 0), (0, 0), (4607182418800017408, 0)] bh 8 = some (0, 0) := by kernel_rfl
theorem ev_j : zerosS [(0, 0)] b2 8 = some (0, 80) := by kernel_rfl
theorem ev_o : zerosS [(4607182418800017408, 0)] ((0, 0), (4607182418800017408, 0)) 8 = some (0, 110) := by kernel_rfl
theorem ev_p : zerosS [(4607182418800017408, 0)] b2 25 = some (0, 2) := by kernel_rfl
theorem ev_q : zerosS [(0, 0), (4607182418800017408, 0)] b2 8 = some (1, 0) := by kernel_rfl
theorem ev_s : zerosS [(4607182418800017408, 0)] b2 8 = some (0, 0) := by kernel_rfl
def pcc : List Pl := [(13835058055282163712, 13835058055282163712), (4611686018427387904, 13835058055282163712), (4611686018427387904, 4611686018427387904), (13835058055282163712, 4611686018427387904)]
def pcw : List Pl := [(13835058055282163712, 4611686018427387904), (4611686018427387904, 4611686018427387904), (4611686018427387904, 13835058055282163712), (13835058055282163712, 13835058055282163712)]
theorem ev_r1 : overGo [(0, 0), (4607182418800017408, 0)] 8 pcc 4 0 0 [] = some (true, 4, [3, 0, 1, 2]) := by kernel_rfl
theorem ev_r2 : overGo [(0, 0), (4607182418800017408, 0)] 8 pcw 4 0 0 [] = some (true, 4, [1, 0, 3, 2]) := by kernel_rfl
end Go.Proofs.Ytbocjicihamahaa
