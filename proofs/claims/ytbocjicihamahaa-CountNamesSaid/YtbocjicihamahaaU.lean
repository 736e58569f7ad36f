/- What a cut and the search come to, as plain functions. -/
import Derived.Test.YtbocjicihamahaaN
import Derived.Test.YtbocjicihamahaaS
import Derived.Test.YtbocjicihamahaaR
set_option linter.unusedSimpArgs false
set_option linter.unusedVariables false
namespace Go.Proofs.Ytbocjicihamahaa
open Go.RowKit

/-- The zeros of boxes, one behind the other. -/
def cutGo (l : List Pl) (d : Nat) : List Bx → Nat → Option (Bool × Nat × List Int)
  | [], n => some (true, n, [])
  | q :: r, n => (overGo l d (borderS q) 4 0 n []).bind fun a => if a.1 = true then (cutGo l d r a.2.1).bind fun b => some (b.1, b.2.1, roundS a.2.2 :: b.2.2) else some (false, a.2.1, [])
abbrev fdV (q : Bx) (a : Int) : List Value := [.complex .f64 q.1.1 q.1.2, .complex .f64 q.2.1 q.2.2, .int .i64 a]
abbrev fd0 : List Value := [.complex .f64 0 0, .complex .f64 0 0, .int .i64 0]
/-- Four found boxes' cells; of the first k alone. -/
def outV : List Bx → List Int → Nat → List Value
  | _, _, 0 => []
  | q :: qs, a :: ts, k + 1 => fdV q a ++ outV qs ts k
  | _ :: qs, [], k + 1 => fd0 ++ outV qs [] k
  | [], _, k + 1 => fd0 ++ outV [] [] k
theorem Kept.setOwn {w w1 : World} {pb co : Nat} (h : Kept w pb (.slice (some ⟨co, 0, none⟩) 0 0) w1 (.slice (some ⟨co, 0, none⟩) 0 0)) (o : Nat) (v : Value) : Kept w pb (.slice (some ⟨co, 0, none⟩) 0 0) (w1.setCell ⟨co, o, none⟩ v) (.slice (some ⟨co, 0, none⟩) 0 0) :=
  h.trans ⟨rfl, rfl, rfl, by simp [World.setCell], fun k _ _ hv => Below.heap_setCell _ _ _ _ (fun e => hv (by rw [e]; rfl)), .inl rfl⟩
theorem idx0 (q0 q1 q2 q3 : Bx) (w : World) : (Instr.index 76 (.agg (fourV q0 q1 q2 q3)) (.int .i64 0)).run Try.prog w = .ok (.agg #[.complex .f64 q0.1.1 q0.1.2, .complex .f64 q0.2.1 q0.2.2]) w := by kernel_rfl
theorem idx1 (q0 q1 q2 q3 : Bx) (w : World) : (Instr.index 76 (.agg (fourV q0 q1 q2 q3)) (.int .i64 1)).run Try.prog w = .ok (.agg #[.complex .f64 q1.1.1 q1.1.2, .complex .f64 q1.2.1 q1.2.2]) w := by kernel_rfl
theorem idx2 (q0 q1 q2 q3 : Bx) (w : World) : (Instr.index 76 (.agg (fourV q0 q1 q2 q3)) (.int .i64 2)).run Try.prog w = .ok (.agg #[.complex .f64 q2.1.1 q2.1.2, .complex .f64 q2.2.1 q2.2.2]) w := by kernel_rfl
theorem idx3 (q0 q1 q2 q3 : Bx) (w : World) : (Instr.index 76 (.agg (fourV q0 q1 q2 q3)) (.int .i64 3)).run Try.prog w = .ok (.agg #[.complex .f64 q3.1.1 q3.1.2, .complex .f64 q3.2.1 q3.2.2]) w := by kernel_rfl
/-- What a cut comes to. -/
def CutPost (l : List Pl) (b off cap pb co : Nat) (qs : List Bx) (w : World) (r : Bool × Nat × List Int) (e : Ending) (w' : World) : Prop :=
  e = (if r.1 = true then .returned (.tuple #[]) else .panicked unsureV) ∧ ∃ v', w'.heap[pb]? = some (.cells #[.slice (some ⟨b, off, none⟩) l.length cap, .int .i64 r.2.1, v'] 48 (0, 0)) ∧
    Kept w pb (.slice (some ⟨co, 0, none⟩) 0 0) w' (.slice (some ⟨co, 0, none⟩) 0 0) ∧ (r.1 = true → w'.heap[co]? = some (.cells (outV qs r.2.2 4).toArray 60 (0, 0)))

def fin4 (l : List Pl) (d : Nat) (q0 q1 q2 q3 : Bx) (n : Nat) : Option (Nat × List Fd) :=
  (cutGo l d [q0, q1, q2, q3] n).bind fun r => match r with
    | (true, m, [a0, a1, a2, a3]) => some (m, [(q0, a0), (q1, a1), (q2, a2), (q3, a3)])
    | _ => none
/-- A box's quarters with their zeros. -/
def cutS (l : List Pl) (d : Nat) (x : Bx) (n : Nat) : Option (Nat × List Fd) :=
  match quartersS x 4602678819172646912 with
  | some [p0, p1, p2, p3] =>
    match fin4 l d p0 p1 p2 p3 n with
    | some r => some r
    | none =>
      match overGo l d (borderS p0) 4 0 n [] with
      | some (false, m, _) =>
        match quartersS x 4601552919265804288 with
        | some [q0, q1, q2, q3] => fin4 l d q0 q1 q2 q3 m
        | _ => none
      | _ => none
  | _ => none
/-- Boxes that have all zeros of a box that was found. -/
def apartS (l : List Pl) (most d : Nat) : Nat → Fd → Nat → Nat → List Fd → Option (Nat × List Fd)
  | 0, _, _, _, _ => none
  | k + 1, f, c, n, fs =>
    if f.2 = 0 then some (n, fs)
    else match wideS f.1 with
      | none => none
      | some v =>
        if fle v most = true then (if fs.length < 1000 then some (n, fs ++ [f]) else none)
        else if c < d then match cutS l d f.1 n with
          | some (m, [g0, g1, g2, g3]) => [g0, g1, g2, g3].foldl (fun a g => match a with
            | some r => if r.1 ≤ 16384 then apartS l most d k g (c + 1) r.1 r.2 else none
            | none => none) (some (m, fs))
          | _ => none
        else none
end Go.Proofs.Ytbocjicihamahaa
