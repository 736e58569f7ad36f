/- What the search leaves as it was. -/
import Derived.Test.YtbocjicihamahaaW
set_option linter.unusedSimpArgs false
set_option linter.unusedVariables false
namespace Go.Proofs.Ytbocjicihamahaa
open Go.RowKit

theorem fin4_out {l : List Pl} {d n m : Nat} {q0 q1 q2 q3 : Bx} {gs : List Fd} (h : fin4 l d q0 q1 q2 q3 n = some (m, gs)) : ∃ a0 a1 a2 a3, cutGo l d [q0, q1, q2, q3] n = some (true, m, [a0, a1, a2, a3]) ∧ gs = [(q0, a0), (q1, a1), (q2, a2), (q3, a3)] := by
  unfold fin4 at h
  obtain ⟨r, hr, h⟩ := bind_some h
  split at h
  · cases h
    exact ⟨_, _, _, _, hr, rfl⟩
  · cases h
theorem cut_any (l : List Pl) (x : Bx) (b off cap pb : Nat) (hbp : b ≠ pb) (d : Nat) (hd : d ≤ 24) (n : Nat) (v0 : Value) (w : World) (m : Nat) (g0 g1 g2 g3 : Fd)
    (hn : n ≤ 16384) (hb : b < w.heap.size) (hblk : w.heap[pb]? = some (.cells #[.slice (some ⟨b, off, none⟩) l.length cap, .int .i64 n, v0] 48 (0, 0))) (hrd : reads w b off l)
    (h : cutS l d x n = some (m, [g0, g1, g2, g3])) :
    Calls Try.prog 24 #[.pointer (some ⟨pb, 0, none⟩), .agg #[.complex .f64 x.1.1 x.1.2, .complex .f64 x.2.1 x.2.2], .int .i64 d] w fun e w' =>
      e = .returned (.agg (fd12 g0.1 g1.1 g2.1 g3.1 g0.2 g1.2 g2.2 g3.2)) ∧ (∃ v', w'.heap[pb]? = some (.cells #[.slice (some ⟨b, off, none⟩) l.length cap, .int .i64 m, v'] 48 (0, 0))) ∧ Only w.heap.size pb w w' := by
  unfold cutS at h
  split at h
  · rename_i p0 p1 p2 p3 hp
    split at h
    · rename_i r hf
      injection h with h
      subst h
      obtain ⟨a0, a1, a2, a3, hc, hg⟩ := fin4_out hf
      cases hg
      exact cut_one l x p0 p1 p2 p3 b off cap pb hbp d hd n v0 w m a0 a1 a2 a3 hn hb hblk hrd hp hc
    · split at h
      · rename_i m1 ks ho
        split at h
        · rename_i q0 q1 q2 q3 hq
          obtain ⟨a0, a1, a2, a3, hc, hg⟩ := fin4_out h
          cases hg
          exact cut_two l x p0 p1 p2 p3 q0 q1 q2 q3 b off cap pb hbp d hd n v0 w (false, m1, ks) m a0 a1 a2 a3 hn hb hblk hrd hp ho rfl hq hc
        · cases h
      · cases h
  · cases h
/-- What the search leaves as it was: all but the walk, the found ones' variable and their own row. -/
structure Kept2 (w : World) (pb pa : Nat) (v : Value) (w' : World) (v' : Value) : Prop where
  os : w'.os = w.os
  tape : w'.tape = w.tape
  output : w'.output = w.output
  size : w.heap.size ≤ w'.heap.size
  block : ∀ k, k < w.heap.size → k ≠ pb → k ≠ pa → some k ≠ v.ownBlock → w'.heap[k]? = w.heap[k]?
  own : v'.ownBlock = v.ownBlock ∨ ∀ g, v'.ownBlock = some g → w.heap.size ≤ g
theorem Kept2.of_only {w w' : World} {pb pa : Nat} {v : Value} (h : Only w.heap.size pb w w') : Kept2 w pb pa v w' v := ⟨h.os, h.tape, h.output, h.size, fun k hk hp _ _ => h.block k hk hp, .inl rfl⟩
theorem Kept2.ne {w w' : World} {pb pa : Nat} {v v' : Value} (h : Kept2 w pb pa v w' v') {k : Nat} (hk : k < w.heap.size) (hv : some k ≠ v.ownBlock) : some k ≠ v'.ownBlock := by
  intro e
  rcases h.own with h1 | h1
  · exact hv (e.trans h1)
  · have := h1 k e.symm
    omega
theorem Kept2.trans {a b c : World} {pb pa : Nat} {u v x : Value} (h : Kept2 a pb pa u b v) (k : Kept2 b pb pa v c x) : Kept2 a pb pa u c x := by
  refine ⟨k.os.trans h.os, k.tape.trans h.tape, k.output.trans h.output, Nat.le_trans h.size k.size, fun i hi hp hq hu => (k.block i (Nat.lt_of_lt_of_le hi h.size) hp hq (h.ne hi hu)).trans (h.block i hi hp hq hu), ?_⟩
  rcases k.own with k1 | k1
  · rcases h.own with h1 | h1
    · exact .inl (k1.trans h1)
    · exact .inr fun g hg => h1 g (k1.symm.trans hg)
  · exact .inr fun g hg => Nat.le_trans h.size (k1 g hg)
theorem Kept2.cell {w w' : World} {pb pa : Nat} {v v' : Value} (h : Kept2 w pb pa v w' v') {q : Addr} (hq : q.block < w.heap.size) (hn : q.block ≠ pb) (ha : q.block ≠ pa) (hv : some q.block ≠ v.ownBlock) : w'.cell? q = w.cell? q := World.cell?_of_block (w := w) (h.block q.block hq hn ha hv)
/-- The found boxes' cells. -/
def fdCells (fs : List Fd) : List Value := fs.flatMap fun f => fdV f.1 f.2
/-- The memory of a search: the walk, the found ones, what the closure has at hand. -/
structure Search (w : World) (B pb pa cm cd cw ca b off cap : Nat) (l : List Pl) (most d n : Nat) (fs : List Fd) (v0 va : Value) : Prop where
  blk : w.heap[pb]? = some (.cells #[.slice (some ⟨b, off, none⟩) l.length cap, .int .i64 n, v0] 48 (0, 0))
  all : w.heap[pa]? = some (.cells #[va] 52 (0, 0))
  own : w.ownsRow B 55 3 va fs.length (fdCells fs)
  hm : w.cell? ⟨cm, 0, none⟩ = some (.float .f64 most)
  hd : w.cell? ⟨cd, 0, none⟩ = some (.int .i64 d)
  hw : w.cell? ⟨cw, 0, none⟩ = some (.pointer (some ⟨pb, 0, none⟩))
  ha : w.cell? ⟨ca, 0, none⟩ = some (.func (.func 22) #[] #[.pointer (some ⟨cm, 0, none⟩), .pointer (some ⟨pa, 0, none⟩), .pointer (some ⟨cd, 0, none⟩), .pointer (some ⟨cw, 0, none⟩), .pointer (some ⟨ca, 0, none⟩)])
  rd : reads w b off l
  top : B ≤ w.heap.size
/-- Where what a search has at hand lies. -/
structure Lies (B pb pa cm cd cw ca b : Nat) : Prop where
  b1 : pb < B
  b2 : pa < B
  b3 : cm < B
  b4 : cd < B
  b5 : cw < B
  b6 : ca < B
  b7 : b < B
  ab : pa ≠ pb
  m1 : cm ≠ pb
  m2 : cm ≠ pa
  d1 : cd ≠ pb
  d2 : cd ≠ pa
  w1 : cw ≠ pb
  w2 : cw ≠ pa
  a1 : ca ≠ pb
  a2 : ca ≠ pa
  l1 : b ≠ pb
  l2 : b ≠ pa
def apartF (l : List Pl) (most d k c : Nat) : Option (Nat × List Fd) → Fd → Option (Nat × List Fd) := fun a g => match a with
            | some r => if r.1 ≤ 16384 then apartS l most d k g (c + 1) r.1 r.2 else none
            | none => none
theorem foldF_none (l : List Pl) (most d k c : Nat) (gs : List Fd) : gs.foldl (apartF l most d k c) none = none := by
  induction gs with
  | nil => rfl
  | cons g gs ih => exact ih
theorem foldF_cons {l : List Pl} {most d k c m : Nat} {fs : List Fd} {g : Fd} {gs : List Fd} {R : Nat × List Fd} (h : (g :: gs).foldl (apartF l most d k c) (some (m, fs)) = some R) :
    m ≤ 16384 ∧ ∃ r, apartS l most d k g (c + 1) m fs = some r ∧ gs.foldl (apartF l most d k c) (some (r.1, r.2)) = some R := by
  rw [List.foldl_cons] at h
  by_cases hm : m ≤ 16384
  · refine ⟨hm, ?_⟩
    have e : apartF l most d k c (some (m, fs)) g = apartS l most d k g (c + 1) m fs := by show (if m ≤ 16384 then _ else _) = _; rw [if_pos hm]
    rw [e] at h
    cases hr : apartS l most d k g (c + 1) m fs with
    | none => rw [hr, foldF_none] at h; cases h
    | some r => rw [hr] at h; exact ⟨r, rfl, h⟩
  · have e : apartF l most d k c (some (m, fs)) g = none := by show (if m ≤ 16384 then _ else _) = _; rw [if_neg hm]
    rw [e, foldF_none] at h
    cases h
end Go.Proofs.Ytbocjicihamahaa
