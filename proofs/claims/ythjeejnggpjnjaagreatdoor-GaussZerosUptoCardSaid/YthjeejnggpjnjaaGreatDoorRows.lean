/-
  NARROWER THAN 'FOR EVERY INPUT', by the rows' own cells (each row's printed sentence says how): GaussAt: laid · GaussZeros: laid · GaussProduct: laid · GaussCounted: laid · GaussCut: laid · GaussFloats: laid · GaussField: laid · GaussNear: laid · GaussOps: laid.
  DERIVED. THE GIVEN ROWS OF THIS SEAT. 9 by the template 'for every input the law returns true; each argument reads behind the call as it read before'; 0 by the template 'total and deterministic' (their statements: YthjeejnggpjnjaaGreatDoorTotals.lean).
  GIVEN WITH THE SEED: the statements are not yours to turn. If you find one false, say at which input.
  Laid BY PROGRAM, IN A SANDBOX (cutbox-rows.mjs): the forced cells as the released guide's own fill.sh prints them over the translation b09dba0fd19c8f30… (all of the seat's roots in one cut). By AI agents, Wed Nov 11 2026. No macro, syntax, notation, axiom, sorry.
-/
import Derived.Test.YthjeejnggpjnjaaGreatDoorChecked
import GoSem.Claim
import GoSem.ClaimJoined
import GoSem.ClaimMapViews
import Derived.JoinedTies
import Derived.KernelRfl
namespace Go.Proofs.YthjeejnggpjnjaaGreatDoor
/- THE CELL 'sum', in the pinned program and in every row, IS THE sha256 OF THE DUMP (.gsa) THAT YthjeejnggpjnjaaGreatDoorProg.lean LOADS. Nothing in Lean hashes anything: it is a label: what it is worth is what the hold of that sum in a sandbox is worth. -/
noncomputable def Tryz.pinned : Pinned := { name := "ythjeejnggpjnjaagreatdoor", sum := "b09dba0fd19c8f30ffd29a508a4dd7c71e909060c7c63413a1c4f919a3980c08", checked := Tryz.checked }
namespace Rows
def none {H : Type} : Left H := { results := [], args := [] }

/- WHAT THE LISTED PACKAGE-LEVEL VARIABLES READ AS WHEN THE CALL BEGINS. Each datum BY PROGRAM (the guide's laid-datum.mjs) off the statement by which the dump's own 'gosem.cut.vars' lays the variable. In a bare row this is a premise. The card (YthjeejnggpjnjaaGreatDoorCards.lean) ties it to the program's text. -/
def laid_math_bits_deBruijn32tab {H : Type} : DataW H := .agg [.lit (.int .u8 0), .lit (.int .u8 1), .lit (.int .u8 28), .lit (.int .u8 2), .lit (.int .u8 29), .lit (.int .u8 14), .lit (.int .u8 24), .lit (.int .u8 3), .lit (.int .u8 30), .lit (.int .u8 22), .lit (.int .u8 20), .lit (.int .u8 15), .lit (.int .u8 25), .lit (.int .u8 17), .lit (.int .u8 4), .lit (.int .u8 8), .lit (.int .u8 31), .lit (.int .u8 27), .lit (.int .u8 13), .lit (.int .u8 23), .lit (.int .u8 21), .lit (.int .u8 19), .lit (.int .u8 16), .lit (.int .u8 7), .lit (.int .u8 26), .lit (.int .u8 12), .lit (.int .u8 18), .lit (.int .u8 6), .lit (.int .u8 11), .lit (.int .u8 5), .lit (.int .u8 10), .lit (.int .u8 9)]

/-- 'eddylaw03.GaussAt': WHATEVER THE INPUT: true; the input reads as it did. -/
def gaussAtSpec : ChangeSpec := { name := "gaussAt", fn := fun _ => fun
  | [d1, d2] => { results := [.lit (.bool true)], args := [d1, d2] }
  | _ => none }
def gaussAtRow : OpenClaim := { program := "ythjeejnggpjnjaagreatdoor", sum := "b09dba0fd19c8f30ffd29a508a4dd7c71e909060c7c63413a1c4f919a3980c08", func := "eddy/eddylaw03.GaussAt", spec := "gaussAt", inPlace := ["math.Float64bits", "math.Float64frombits"], unfollowed := true, recurses := true, named := ["math/bits.deBruijn32tab"], apart := false, laid := [("math/bits.deBruijn32tab", laid_math_bits_deBruijn32tab)] }
def GaussAtSaid : Prop := gaussAtRow.holds Tryz.pinned (OpenSpec.ofChange gaussAtSpec)

/-- ITS FALSE NEIGHBOUR: 'it returns false'. Refute it at one input. -/
def gaussAtWrong : ChangeSpec := { name := "gaussAt", fn := fun _ => fun
  | [d1, d2] => { results := [.lit (.bool false)], args := [d1, d2] }
  | _ => none }
def GaussAtWrongFalsely : Prop := gaussAtRow.holds Tryz.pinned (OpenSpec.ofChange gaussAtWrong)

/-- 'eddylaw03.GaussZeros': WHATEVER THE INPUT: true; the input reads as it did. -/
def gaussZerosSpec : ChangeSpec := { name := "gaussZeros", fn := fun _ => fun
  | [d1, d2] => { results := [.lit (.bool true)], args := [d1, d2] }
  | _ => none }
def gaussZerosRow : OpenClaim := { program := "ythjeejnggpjnjaagreatdoor", sum := "b09dba0fd19c8f30ffd29a508a4dd7c71e909060c7c63413a1c4f919a3980c08", func := "eddy/eddylaw03.GaussZeros", spec := "gaussZeros", inPlace := ["math.Float64bits", "math.Float64frombits"], unfollowed := true, recurses := true, named := ["math/bits.deBruijn32tab"], apart := false, laid := [("math/bits.deBruijn32tab", laid_math_bits_deBruijn32tab)] }
def GaussZerosSaid : Prop := gaussZerosRow.holds Tryz.pinned (OpenSpec.ofChange gaussZerosSpec)

/-- ITS FALSE NEIGHBOUR: 'it returns false'. Refute it at one input. -/
def gaussZerosWrong : ChangeSpec := { name := "gaussZeros", fn := fun _ => fun
  | [d1, d2] => { results := [.lit (.bool false)], args := [d1, d2] }
  | _ => none }
def GaussZerosWrongFalsely : Prop := gaussZerosRow.holds Tryz.pinned (OpenSpec.ofChange gaussZerosWrong)

/-- 'eddylaw03.GaussProduct': WHATEVER THE INPUT: true; the input reads as it did. -/
def gaussProductSpec : ChangeSpec := { name := "gaussProduct", fn := fun _ => fun
  | [d1, d2, d3] => { results := [.lit (.bool true)], args := [d1, d2, d3] }
  | _ => none }
def gaussProductRow : OpenClaim := { program := "ythjeejnggpjnjaagreatdoor", sum := "b09dba0fd19c8f30ffd29a508a4dd7c71e909060c7c63413a1c4f919a3980c08", func := "eddy/eddylaw03.GaussProduct", spec := "gaussProduct", inPlace := ["math.Float64bits", "math.Float64frombits"], unfollowed := true, recurses := true, named := ["math/bits.deBruijn32tab"], apart := false, laid := [("math/bits.deBruijn32tab", laid_math_bits_deBruijn32tab)] }
def GaussProductSaid : Prop := gaussProductRow.holds Tryz.pinned (OpenSpec.ofChange gaussProductSpec)

/-- ITS FALSE NEIGHBOUR: 'it returns false'. Refute it at one input. -/
def gaussProductWrong : ChangeSpec := { name := "gaussProduct", fn := fun _ => fun
  | [d1, d2, d3] => { results := [.lit (.bool false)], args := [d1, d2, d3] }
  | _ => none }
def GaussProductWrongFalsely : Prop := gaussProductRow.holds Tryz.pinned (OpenSpec.ofChange gaussProductWrong)

/-- 'eddylaw03.GaussCounted': WHATEVER THE INPUT: true; the input reads as it did. -/
def gaussCountedSpec : ChangeSpec := { name := "gaussCounted", fn := fun _ => fun
  | [d1, d2, d3] => { results := [.lit (.bool true)], args := [d1, d2, d3] }
  | _ => none }
def gaussCountedRow : OpenClaim := { program := "ythjeejnggpjnjaagreatdoor", sum := "b09dba0fd19c8f30ffd29a508a4dd7c71e909060c7c63413a1c4f919a3980c08", func := "eddy/eddylaw03.GaussCounted", spec := "gaussCounted", inPlace := ["math.Float64bits", "math.Float64frombits"], unfollowed := true, recurses := true, named := ["math/bits.deBruijn32tab"], apart := false, laid := [("math/bits.deBruijn32tab", laid_math_bits_deBruijn32tab)] }
def GaussCountedSaid : Prop := gaussCountedRow.holds Tryz.pinned (OpenSpec.ofChange gaussCountedSpec)

/-- ITS FALSE NEIGHBOUR: 'it returns false'. Refute it at one input. -/
def gaussCountedWrong : ChangeSpec := { name := "gaussCounted", fn := fun _ => fun
  | [d1, d2, d3] => { results := [.lit (.bool false)], args := [d1, d2, d3] }
  | _ => none }
def GaussCountedWrongFalsely : Prop := gaussCountedRow.holds Tryz.pinned (OpenSpec.ofChange gaussCountedWrong)

/-- 'eddylaw03.GaussCut': WHATEVER THE INPUT: true; the input reads as it did. -/
def gaussCutSpec : ChangeSpec := { name := "gaussCut", fn := fun _ => fun
  | [d1, d2, d3, d4] => { results := [.lit (.bool true)], args := [d1, d2, d3, d4] }
  | _ => none }
def gaussCutRow : OpenClaim := { program := "ythjeejnggpjnjaagreatdoor", sum := "b09dba0fd19c8f30ffd29a508a4dd7c71e909060c7c63413a1c4f919a3980c08", func := "eddy/eddylaw03.GaussCut", spec := "gaussCut", inPlace := ["math.Float64bits", "math.Float64frombits"], unfollowed := true, recurses := true, named := ["math/bits.deBruijn32tab"], apart := false, laid := [("math/bits.deBruijn32tab", laid_math_bits_deBruijn32tab)] }
def GaussCutSaid : Prop := gaussCutRow.holds Tryz.pinned (OpenSpec.ofChange gaussCutSpec)

/-- ITS FALSE NEIGHBOUR: 'it returns false'. Refute it at one input. -/
def gaussCutWrong : ChangeSpec := { name := "gaussCut", fn := fun _ => fun
  | [d1, d2, d3, d4] => { results := [.lit (.bool false)], args := [d1, d2, d3, d4] }
  | _ => none }
def GaussCutWrongFalsely : Prop := gaussCutRow.holds Tryz.pinned (OpenSpec.ofChange gaussCutWrong)

/-- 'eddylaw03.GaussFloats': WHATEVER THE INPUT: true; the input reads as it did. -/
def gaussFloatsSpec : ChangeSpec := { name := "gaussFloats", fn := fun _ => fun
  | [d1, d2, d3, d4] => { results := [.lit (.bool true)], args := [d1, d2, d3, d4] }
  | _ => none }
def gaussFloatsRow : OpenClaim := { program := "ythjeejnggpjnjaagreatdoor", sum := "b09dba0fd19c8f30ffd29a508a4dd7c71e909060c7c63413a1c4f919a3980c08", func := "eddy/eddylaw03.GaussFloats", spec := "gaussFloats", inPlace := ["math.Float64bits", "math.Float64frombits"], unfollowed := true, recurses := true, named := ["math/bits.deBruijn32tab"], apart := false, laid := [("math/bits.deBruijn32tab", laid_math_bits_deBruijn32tab)] }
def GaussFloatsSaid : Prop := gaussFloatsRow.holds Tryz.pinned (OpenSpec.ofChange gaussFloatsSpec)

/-- ITS FALSE NEIGHBOUR: 'it returns false'. Refute it at one input. -/
def gaussFloatsWrong : ChangeSpec := { name := "gaussFloats", fn := fun _ => fun
  | [d1, d2, d3, d4] => { results := [.lit (.bool false)], args := [d1, d2, d3, d4] }
  | _ => none }
def GaussFloatsWrongFalsely : Prop := gaussFloatsRow.holds Tryz.pinned (OpenSpec.ofChange gaussFloatsWrong)

/-- 'eddylaw03.GaussField': WHATEVER THE INPUT: true; the input reads as it did. -/
def gaussFieldSpec : ChangeSpec := { name := "gaussField", fn := fun _ => fun
  | [d1, d2, d3] => { results := [.lit (.bool true)], args := [d1, d2, d3] }
  | _ => none }
def gaussFieldRow : OpenClaim := { program := "ythjeejnggpjnjaagreatdoor", sum := "b09dba0fd19c8f30ffd29a508a4dd7c71e909060c7c63413a1c4f919a3980c08", func := "eddy/eddylaw03.GaussField", spec := "gaussField", inPlace := ["math.Float64bits", "math.Float64frombits"], unfollowed := true, recurses := true, named := ["math/bits.deBruijn32tab"], apart := false, laid := [("math/bits.deBruijn32tab", laid_math_bits_deBruijn32tab)] }
def GaussFieldSaid : Prop := gaussFieldRow.holds Tryz.pinned (OpenSpec.ofChange gaussFieldSpec)

/-- ITS FALSE NEIGHBOUR: 'it returns false'. Refute it at one input. -/
def gaussFieldWrong : ChangeSpec := { name := "gaussField", fn := fun _ => fun
  | [d1, d2, d3] => { results := [.lit (.bool false)], args := [d1, d2, d3] }
  | _ => none }
def GaussFieldWrongFalsely : Prop := gaussFieldRow.holds Tryz.pinned (OpenSpec.ofChange gaussFieldWrong)

/-- 'eddylaw03.GaussNear': WHATEVER THE INPUT: true; the input reads as it did. -/
def gaussNearSpec : ChangeSpec := { name := "gaussNear", fn := fun _ => fun
  | [d1, d2, d3] => { results := [.lit (.bool true)], args := [d1, d2, d3] }
  | _ => none }
def gaussNearRow : OpenClaim := { program := "ythjeejnggpjnjaagreatdoor", sum := "b09dba0fd19c8f30ffd29a508a4dd7c71e909060c7c63413a1c4f919a3980c08", func := "eddy/eddylaw03.GaussNear", spec := "gaussNear", inPlace := ["math.Float64bits", "math.Float64frombits"], unfollowed := true, recurses := true, named := ["math/bits.deBruijn32tab"], apart := false, laid := [("math/bits.deBruijn32tab", laid_math_bits_deBruijn32tab)] }
def GaussNearSaid : Prop := gaussNearRow.holds Tryz.pinned (OpenSpec.ofChange gaussNearSpec)

/-- ITS FALSE NEIGHBOUR: 'it returns false'. Refute it at one input. -/
def gaussNearWrong : ChangeSpec := { name := "gaussNear", fn := fun _ => fun
  | [d1, d2, d3] => { results := [.lit (.bool false)], args := [d1, d2, d3] }
  | _ => none }
def GaussNearWrongFalsely : Prop := gaussNearRow.holds Tryz.pinned (OpenSpec.ofChange gaussNearWrong)

/-- 'eddylaw03.GaussOps': WHATEVER THE INPUT: true; the input reads as it did. -/
def gaussOpsSpec : ChangeSpec := { name := "gaussOps", fn := fun _ => fun
  | [d1, d2] => { results := [.lit (.bool true)], args := [d1, d2] }
  | _ => none }
def gaussOpsRow : OpenClaim := { program := "ythjeejnggpjnjaagreatdoor", sum := "b09dba0fd19c8f30ffd29a508a4dd7c71e909060c7c63413a1c4f919a3980c08", func := "eddy/eddylaw03.GaussOps", spec := "gaussOps", inPlace := ["math.Float64bits", "math.Float64frombits"], unfollowed := true, recurses := true, named := ["math/bits.deBruijn32tab"], apart := false, laid := [("math/bits.deBruijn32tab", laid_math_bits_deBruijn32tab)] }
def GaussOpsSaid : Prop := gaussOpsRow.holds Tryz.pinned (OpenSpec.ofChange gaussOpsSpec)

/-- ITS FALSE NEIGHBOUR: 'it returns false'. Refute it at one input. -/
def gaussOpsWrong : ChangeSpec := { name := "gaussOps", fn := fun _ => fun
  | [d1, d2] => { results := [.lit (.bool false)], args := [d1, d2] }
  | _ => none }
def GaussOpsWrongFalsely : Prop := gaussOpsRow.holds Tryz.pinned (OpenSpec.ofChange gaussOpsWrong)

/- THE SECOND FORM. 'bulk': how many values and letters a reading holds, each counted each time it is reached (what is shared counts as often as it is met; a slice's spare places count too). A statement '..UptoSaid' is the law's where the arguments, and the package variables that the reading takes, are together of bulk at most 1048576: NARROWER than '..Said'. Prove '..Said' where nothing that the law and all that it calls make is longer than what came in: it says more and counts as full. Else prove '..UptoSaid'. A law counts once. -/
mutual
def uptoBulk {H : Type} : DataW H → Nat
  | .lit (.string bytes) => bytes.length + 1
  | .lit _ => 1
  | .nil => 1
  | .ptr d => uptoBulk d + 1
  | .slice elems spare => uptoBulkAll elems + uptoBulkAll spare + 1
  | .agg parts => uptoBulkAll parts + 1
  | .iface _ d => uptoBulk d + 1
  | .map entries => uptoBulkEntries entries + 1
  | .held _ => 1
def uptoBulkAll {H : Type} : List (DataW H) → Nat
  | [] => 0
  | d :: r => uptoBulk d + uptoBulkAll r
def uptoBulkEntries {H : Type} : List (Lit × DataW H) → Nat
  | [] => 0
  | x :: r => uptoBulkEntry x + uptoBulkEntries r
def uptoBulkEntry {H : Type} : Lit × DataW H → Nat
  | (.string bytes, d) => bytes.length + uptoBulk d + 1
  | (_, d) => uptoBulk d + 1
 end
def uptoSmall : (H : Type) → List (DataW H) → Bool := fun _ ds => decide (uptoBulkAll ds ≤ 1048576)
def OpenSpec.upto (s : _root_.Go.ChangeSpec) : _root_.Go.OpenSpec := { _root_.Go.OpenSpec.ofChange s with cond := some uptoSmall }

/-- 'eddylaw03.GaussAt', WHERE WHAT IT READS IS OF BULK AT MOST 1048576: true; the input reads as it did. -/
def gaussAtUptoRow : OpenClaim := { program := "ythjeejnggpjnjaagreatdoor", sum := "b09dba0fd19c8f30ffd29a508a4dd7c71e909060c7c63413a1c4f919a3980c08", func := "eddy/eddylaw03.GaussAt", spec := "gaussAt", inPlace := ["math.Float64bits", "math.Float64frombits"], unfollowed := true, recurses := true, named := ["math/bits.deBruijn32tab"], apart := false, laid := [("math/bits.deBruijn32tab", laid_math_bits_deBruijn32tab)], narrowed := true }
def GaussAtUptoSaid : Prop := gaussAtUptoRow.holds Tryz.pinned (OpenSpec.upto gaussAtSpec)

/-- 'eddylaw03.GaussZeros', WHERE WHAT IT READS IS OF BULK AT MOST 1048576: true; the input reads as it did. -/
def gaussZerosUptoRow : OpenClaim := { program := "ythjeejnggpjnjaagreatdoor", sum := "b09dba0fd19c8f30ffd29a508a4dd7c71e909060c7c63413a1c4f919a3980c08", func := "eddy/eddylaw03.GaussZeros", spec := "gaussZeros", inPlace := ["math.Float64bits", "math.Float64frombits"], unfollowed := true, recurses := true, named := ["math/bits.deBruijn32tab"], apart := false, laid := [("math/bits.deBruijn32tab", laid_math_bits_deBruijn32tab)], narrowed := true }
def GaussZerosUptoSaid : Prop := gaussZerosUptoRow.holds Tryz.pinned (OpenSpec.upto gaussZerosSpec)

/-- 'eddylaw03.GaussProduct', WHERE WHAT IT READS IS OF BULK AT MOST 1048576: true; the input reads as it did. -/
def gaussProductUptoRow : OpenClaim := { program := "ythjeejnggpjnjaagreatdoor", sum := "b09dba0fd19c8f30ffd29a508a4dd7c71e909060c7c63413a1c4f919a3980c08", func := "eddy/eddylaw03.GaussProduct", spec := "gaussProduct", inPlace := ["math.Float64bits", "math.Float64frombits"], unfollowed := true, recurses := true, named := ["math/bits.deBruijn32tab"], apart := false, laid := [("math/bits.deBruijn32tab", laid_math_bits_deBruijn32tab)], narrowed := true }
def GaussProductUptoSaid : Prop := gaussProductUptoRow.holds Tryz.pinned (OpenSpec.upto gaussProductSpec)

/-- 'eddylaw03.GaussCounted', WHERE WHAT IT READS IS OF BULK AT MOST 1048576: true; the input reads as it did. -/
def gaussCountedUptoRow : OpenClaim := { program := "ythjeejnggpjnjaagreatdoor", sum := "b09dba0fd19c8f30ffd29a508a4dd7c71e909060c7c63413a1c4f919a3980c08", func := "eddy/eddylaw03.GaussCounted", spec := "gaussCounted", inPlace := ["math.Float64bits", "math.Float64frombits"], unfollowed := true, recurses := true, named := ["math/bits.deBruijn32tab"], apart := false, laid := [("math/bits.deBruijn32tab", laid_math_bits_deBruijn32tab)], narrowed := true }
def GaussCountedUptoSaid : Prop := gaussCountedUptoRow.holds Tryz.pinned (OpenSpec.upto gaussCountedSpec)

/-- 'eddylaw03.GaussCut', WHERE WHAT IT READS IS OF BULK AT MOST 1048576: true; the input reads as it did. -/
def gaussCutUptoRow : OpenClaim := { program := "ythjeejnggpjnjaagreatdoor", sum := "b09dba0fd19c8f30ffd29a508a4dd7c71e909060c7c63413a1c4f919a3980c08", func := "eddy/eddylaw03.GaussCut", spec := "gaussCut", inPlace := ["math.Float64bits", "math.Float64frombits"], unfollowed := true, recurses := true, named := ["math/bits.deBruijn32tab"], apart := false, laid := [("math/bits.deBruijn32tab", laid_math_bits_deBruijn32tab)], narrowed := true }
def GaussCutUptoSaid : Prop := gaussCutUptoRow.holds Tryz.pinned (OpenSpec.upto gaussCutSpec)

/-- 'eddylaw03.GaussFloats', WHERE WHAT IT READS IS OF BULK AT MOST 1048576: true; the input reads as it did. -/
def gaussFloatsUptoRow : OpenClaim := { program := "ythjeejnggpjnjaagreatdoor", sum := "b09dba0fd19c8f30ffd29a508a4dd7c71e909060c7c63413a1c4f919a3980c08", func := "eddy/eddylaw03.GaussFloats", spec := "gaussFloats", inPlace := ["math.Float64bits", "math.Float64frombits"], unfollowed := true, recurses := true, named := ["math/bits.deBruijn32tab"], apart := false, laid := [("math/bits.deBruijn32tab", laid_math_bits_deBruijn32tab)], narrowed := true }
def GaussFloatsUptoSaid : Prop := gaussFloatsUptoRow.holds Tryz.pinned (OpenSpec.upto gaussFloatsSpec)

/-- 'eddylaw03.GaussField', WHERE WHAT IT READS IS OF BULK AT MOST 1048576: true; the input reads as it did. -/
def gaussFieldUptoRow : OpenClaim := { program := "ythjeejnggpjnjaagreatdoor", sum := "b09dba0fd19c8f30ffd29a508a4dd7c71e909060c7c63413a1c4f919a3980c08", func := "eddy/eddylaw03.GaussField", spec := "gaussField", inPlace := ["math.Float64bits", "math.Float64frombits"], unfollowed := true, recurses := true, named := ["math/bits.deBruijn32tab"], apart := false, laid := [("math/bits.deBruijn32tab", laid_math_bits_deBruijn32tab)], narrowed := true }
def GaussFieldUptoSaid : Prop := gaussFieldUptoRow.holds Tryz.pinned (OpenSpec.upto gaussFieldSpec)

/-- 'eddylaw03.GaussNear', WHERE WHAT IT READS IS OF BULK AT MOST 1048576: true; the input reads as it did. -/
def gaussNearUptoRow : OpenClaim := { program := "ythjeejnggpjnjaagreatdoor", sum := "b09dba0fd19c8f30ffd29a508a4dd7c71e909060c7c63413a1c4f919a3980c08", func := "eddy/eddylaw03.GaussNear", spec := "gaussNear", inPlace := ["math.Float64bits", "math.Float64frombits"], unfollowed := true, recurses := true, named := ["math/bits.deBruijn32tab"], apart := false, laid := [("math/bits.deBruijn32tab", laid_math_bits_deBruijn32tab)], narrowed := true }
def GaussNearUptoSaid : Prop := gaussNearUptoRow.holds Tryz.pinned (OpenSpec.upto gaussNearSpec)

/-- 'eddylaw03.GaussOps', WHERE WHAT IT READS IS OF BULK AT MOST 1048576: true; the input reads as it did. -/
def gaussOpsUptoRow : OpenClaim := { program := "ythjeejnggpjnjaagreatdoor", sum := "b09dba0fd19c8f30ffd29a508a4dd7c71e909060c7c63413a1c4f919a3980c08", func := "eddy/eddylaw03.GaussOps", spec := "gaussOps", inPlace := ["math.Float64bits", "math.Float64frombits"], unfollowed := true, recurses := true, named := ["math/bits.deBruijn32tab"], apart := false, laid := [("math/bits.deBruijn32tab", laid_math_bits_deBruijn32tab)], narrowed := true }
def GaussOpsUptoSaid : Prop := gaussOpsUptoRow.holds Tryz.pinned (OpenSpec.upto gaussOpsSpec)

end Rows
end Go.Proofs.YthjeejnggpjnjaaGreatDoor
