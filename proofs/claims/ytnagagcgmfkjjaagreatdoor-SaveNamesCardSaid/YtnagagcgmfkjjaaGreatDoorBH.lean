/- What the document's readers keep. -/
import Derived.Test.YtnagagcgmfkjjaaGreatDoorBF
import Derived.Test.YtnagagcgmfkjjaaGreatDoorBG
set_option linter.unusedSimpArgs false
set_option linter.unusedVariables false
namespace Go.Proofs.YtnagagcgmfkjjaaGreatDoor
open Go.RowKit

/-- A block that stands as it is: its number, its cells, its type. -/
abbrev Fx := Nat × Array Value × Nat
/-- The document reads a save: the reader, the row of what was read, the blocks F besides. -/
structure Dn (B : Nat) (w0 : World) (rb : Nat) (s : ByteArray) (F : List Fx) (E size : Nat) (st : St) (n : Nat) (sv : Value) (xs : List Value) (w : World) : Prop where
  rd : Rr w rb s st.1 st.2
  fix : ∀ p ∈ F, w.heap[p.1]? = some (.cells p.2.1 p.2.2 (0, 0))
  nr : ∀ p ∈ F, p.1 ≠ rb ∧ B ≤ p.1
  own : w.ownsRow B E size sv n xs
  ob : sv.ownBlock ≠ some rb
  of : ∀ p ∈ F, sv.ownBlock ≠ some p.1
  br : B ≤ rb
  kp : Keeps B [] w0 w
section
variable {B : Nat} {w0 w w' : World} {rb : Nat} {s : ByteArray} {st st' : St} {F : List Fx} {E size n : Nat} {sv : Value} {xs : List Value}
theorem own_span {g : Nat} (h : w.ownsRow B E size sv n xs) (e : sv.ownBlock = some g) : B ≤ g ∧ g < w.heap.size := by
  rcases h.2 with ⟨rfl, -⟩ | ⟨k, cap, cur, rfl, hg, hk, -⟩
  · cases e
  · simp only [Value.ownBlock, Option.some.injEq] at e
    subst e
    exact ⟨hg, lt_of_block hk⟩
theorem Dn.lt (L : Dn B w0 rb s F E size st n sv xs w) : rb < w.heap.size := lt_of_block L.rd
theorem Dn.alloc (L : Dn B w0 rb s F E size st n sv xs w) (o : Obj) : Dn B w0 rb s F E size st n sv xs (w.alloc o) :=
  ⟨(Below.heap_alloc w o rb L.lt).trans L.rd, fun p hp => (Below.heap_alloc w o _ (lt_of_block (L.fix p hp))).trans (L.fix p hp), L.nr, own_keeps L.own (Keeps.alloc (Keeps.refl w.heap.size [] w) (Nat.le_refl _) _) (Nat.le_refl _) (by simp), L.ob, L.of, L.br, L.kp.alloc (by have := L.lt; have := L.br; omega) _⟩
theorem Dn.allocF (L : Dn B w0 rb s F E size st n sv xs w) (c : Array Value) (T : Nat) : Dn B w0 rb s ((w.heap.size, c, T) :: F) E size st n sv xs (w.alloc (.cells c T)) := by
  have A := L.alloc (.cells c T)
  have hb := L.lt; have hr := L.br
  refine ⟨A.rd, fun p hp => ?_, fun p hp => ?_, A.own, A.ob, fun p hp => ?_, A.br, A.kp⟩
  · rcases List.mem_cons.1 hp with rfl | hp
    · simp only [block_at]
    · exact A.fix p hp
  · rcases List.mem_cons.1 hp with rfl | hp
    · exact ⟨by show w.heap.size ≠ rb; omega, by show B ≤ w.heap.size; omega⟩
    · exact A.nr p hp
  · rcases List.mem_cons.1 hp with rfl | hp
    · intro e
      have := own_span L.own e
      omega
    · exact A.of p hp
theorem Dn.sub (L : Dn B w0 rb s F E size st n sv xs w) {F' : List Fx} (h : ∀ p ∈ F', p ∈ F) : Dn B w0 rb s F' E size st n sv xs w :=
  ⟨L.rd, fun p hp => L.fix p (h p hp), fun p hp => L.nr p (h p hp), L.own, L.ob, fun p hp => L.of p (h p hp), L.br, L.kp⟩
theorem Dn.call (L : Dn B w0 rb s F E size st n sv xs w) (k : Keeps w.heap.size [rb] w w') (h : Rr w' rb s st'.1 st'.2) : Dn B w0 rb s F E size st' n sv xs w' := by
  have hb := L.lt; have hr := L.br
  refine ⟨h, fun p hp => (k.block p.1 (lt_of_block (L.fix p hp)) (by simp; exact (L.nr p hp).1)).trans (L.fix p hp), L.nr, own_keeps L.own k (Nat.le_refl _) (fun g hg => ?_), L.ob, L.of, L.br, L.kp.trans (k.mono (by omega) (fun j hj hm => by simp at hm; omega))⟩
  simp only [List.mem_cons, List.not_mem_nil, or_false]
  exact fun e => L.ob (by rw [hg, e])
theorem Dn.quiet (L : Dn B w0 rb s F E size st n sv xs w) (k : Below w.heap.size w w') : Dn B w0 rb s F E size st n sv xs w' := by
  have kk : Keeps w.heap.size [rb] w w' := Keeps.of_below k
  exact L.call kk ((k.block rb L.lt).trans L.rd)
theorem Dn.drewN (L : Dn B w0 rb s F E size st n sv xs w) (m : Nat) : Dn B w0 rb s F E size st n sv xs (w.drewN m) :=
  ⟨L.rd, L.fix, L.nr, L.own, L.ob, L.of, L.br, L.kp.drewN m⟩
theorem Dn.drew (L : Dn B w0 rb s F E size st n sv xs w) : Dn B w0 rb s F E size st n sv xs w.drew :=
  ⟨L.rd, L.fix, L.nr, L.own.drew, L.ob, L.of, L.br, L.kp.drew⟩
theorem Dn.put {g T : Nat} {c : Array Value} (L : Dn B w0 rb s ((g, c, T) :: F) E size st n sv xs w) (hF : ∀ p ∈ F, p.1 ≠ g) (o : Nat) (v : Value) : Dn B w0 rb s ((g, c.setIfInBounds o v, T) :: F) E size st n sv xs (w.setCell ⟨g, o, none⟩ v) := by
  have hg := L.nr (g, c, T) (by simp)
  have hb := L.fix (g, c, T) (by simp)
  have ho := L.of (g, c, T) (by simp)
  simp only at hg hb ho
  refine ⟨(block_ne _ _ _ _ _ (fun e => hg.1 e.symm)).trans L.rd, fun p hp => ?_, fun p hp => ?_, own_set L.own ho, L.ob, fun p hp => ?_, L.br, L.kp.set (Or.inr hg.2) _ _⟩
  · rcases List.mem_cons.1 hp with rfl | hp
    · exact set_of_block hb o v
    · exact (block_ne _ _ _ _ _ (hF p hp)).trans (L.fix p (by simp [hp]))
  · rcases List.mem_cons.1 hp with rfl | hp
    · exact hg
    · exact L.nr p (by simp [hp])
  · rcases List.mem_cons.1 hp with rfl | hp
    · exact ho
    · exact L.of p (by simp [hp])
/-- One thing more behind what was read. -/
theorem Dn.app (L : Dn B w0 rb s F E size st n sv xs w) {wa : World} {g cap : Nat} {new : List Value} (ho : wa.ownsRow B E size (.slice (some ⟨g, 0, none⟩) (n + 1) cap) (n + 1) (xs ++ new))
    (hg : w.grownBy wa sv.ownBlock) (hat : sv.ownBlock = some g ∨ g = w.heap.size) : Dn B w0 rb s F E size st (n + 1) (.slice (some ⟨g, 0, none⟩) (n + 1) cap) (xs ++ new) wa := by
  have hb := L.lt; have hr := L.br
  have hk : ∀ k, k < w.heap.size → sv.ownBlock ≠ some k → (Value.slice (some ⟨g, 0, none⟩) (n + 1) cap).ownBlock ≠ some k := by
    intro k hk hne e
    simp only [Value.ownBlock, Option.some.injEq] at e
    subst e
    rcases hat with h | h
    · exact hne h
    · omega
  refine ⟨(hg.block rb hb (fun e => L.ob e.symm)).trans L.rd, fun p hp => (hg.block p.1 (lt_of_block (L.fix p hp)) (fun e => L.of p hp e.symm)).trans (L.fix p hp), L.nr, ho, hk rb hb L.ob, fun p hp => hk p.1 (lt_of_block (L.fix p hp)) (L.of p hp), L.br, ?_⟩
  refine L.kp.trans ⟨hg.os, hg.tape, hg.output, hg.size, fun k hk _ => hg.block k (by omega) ?_⟩
  intro e
  have := own_span L.own e.symm
  omega
theorem Dn.below (L : Dn B w0 rb s F E size st n sv xs w) : Below B w0 w := L.kp.below
end
/-- The law of append at a plain region, without letters for addresses. -/
theorem list_app {ops : Array Oper} {rest : List Oper} {o : Oper} {a : Act} {w : World} {Q : Exit → Act → World → Prop} (hgd : o.guard = none) (s x : Operand) (t : TypeId)
    (ho : o.op = .call { callee := .builtin .append, args := #[s, x], argTypes := #[t, t] }) (base : Nat) (e : TypeId) (i : TypeInfo) (z : Value) (size bytes : Nat) (ht : Tryz.prog.underlying t = some (.slice e)) (hi : Tryz.prog.info? e = some i) (hz : i.zero = some z)
    (hsize : i.size = size) (hby : i.bytes = bytes) (hzs : z.cells.size = size) (hsz : 0 < size) (v : Value) (n : Nat) (xs : List Value) (hs : a.eval s = v) (hown : w.ownsRow base e size v n xs)
    (news : List Value) (hx : ∃ ad c, a.eval x = .slice (some ad) 1 c ∧ ∀ j u, news[j]? = some u → w.cell? (ad.add j) = some u) (hl : news.length = size) (h1 : ∀ u ∈ news, u.oneCell' = true)
    (h63 : n + 1 ≤ maxLen) (hbytes : (n + 1) * bytes ≤ 140737488355328) (hbase : base ≤ w.heap.size)
    (h : ∀ g cap w', w'.ownsRow base e size (.slice (some ⟨g, 0, none⟩) (n + 1) cap) (n + 1) (xs ++ news) → w.grownBy w' v.ownBlock → (v.ownBlock = some g ∨ g = w.heap.size) → g < w'.heap.size → wpList Tryz.prog ops Q rest (a.put o.dst (.slice (some ⟨g, 0, none⟩) (n + 1) cap)) w') :
    wpList Tryz.prog ops Q (o :: rest) a w := by
  obtain ⟨ad, c, hx, hn⟩ := hx
  exact wpList_append_lies w hgd s x t ho base e i z size bytes ht hi hz hsize hby hzs hsz v n xs hs hown ad 1 c news hx (by omega) hn h1 (by omega) h63 hbytes hbase _ rfl h
/-- Lines that are read so far, and those that are left. -/
theorem lines_next {α : Type} {s one : By} {line : St → α × St} {NN c : Nat} {st r3 r5 : St} {r6 : α × St} {l : List α} (hc : c < NN) (h2 : st.2 < 0) (e5 : r5 = mustS s [one, [32]] st) (e6 : r6 = line r5)
    (HL : linesS s one line NN r3 = (l ++ (linesS s one line (NN - c) st).1, (linesS s one line (NN - c) st).2)) :
    linesS s one line NN r3 = ((l ++ [r6.1]) ++ (linesS s one line (NN - (c + 1)) (mustS s [[10]] r6.2)).1, (linesS s one line (NN - (c + 1)) (mustS s [[10]] r6.2)).2) := by
  have hstep := lines_step s one line (NN - (c + 1)) st h2
  rw [show NN - (c + 1) + 1 = NN - c by omega, ← e5, ← e6] at hstep
  rw [HL, hstep]
  simp
theorem lines_done {α : Type} {s one : By} {line : St → α × St} {NN c : Nat} {st r3 : St} {l : List α} (h : ¬ c < NN ∨ ¬ st.2 < 0)
    (HL : linesS s one line NN r3 = (l ++ (linesS s one line (NN - c) st).1, (linesS s one line (NN - c) st).2)) : linesS s one line NN r3 = (l, st) := by
  rw [HL, lines_stop s one line (NN - c) st (by rcases h with h | h; left; omega; right; exact h)]
  simp
end Go.Proofs.YtnagagcgmfkjjaaGreatDoor
