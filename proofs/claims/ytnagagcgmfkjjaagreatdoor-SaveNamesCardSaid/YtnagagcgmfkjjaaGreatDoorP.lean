/- A world with more blocks behind it. -/
import Derived.Test.YtnagagcgmfkjjaaGreatDoorY
set_option linter.unusedSimpArgs false
set_option linter.unusedVariables false
namespace Go.Proofs.YtnagagcgmfkjjaaGreatDoor
open Go.RowKit
/-- The world w with the blocks 'os' behind its own, and another count of draws. -/
def _root_.Go.World.plus (w : World) (os : Array Obj) (d : Nat) : World := { w with heap := w.heap ++ os, drawn := d }
theorem plus_of_below {w w' : World} (h : Below w.heap.size w w') : ∃ os d, w' = w.plus os d := by
  refine ⟨w'.heap.extract w.heap.size w'.heap.size, w'.drawn, ?_⟩
  have hh : w'.heap = w.heap ++ w'.heap.extract w.heap.size w'.heap.size := by
    apply Array.ext_getElem?
    intro k
    have hs := h.size
    by_cases hk : k < w.heap.size
    · rw [h.block k hk, Array.getElem?_append_left hk]
    · rw [Array.getElem?_append_right (by omega), Array.getElem?_extract]
      split
      · congr 1; omega
      · rw [Array.getElem?_eq_none]; omega
  cases w with
  | mk heap tape drawn os output =>
    cases w' with
    | mk heap' tape' drawn' os' output' =>
      have h1 : tape' = tape := h.tape
      have h2 : os' = os := h.os
      have h3 : output' = output := h.output
      subst h1 h2 h3
      simp only [World.plus] at hh ⊢
      rw [← hh]
@[simp] theorem size_plus (w : World) (os : Array Obj) (d : Nat) : (w.plus os d).heap.size = w.heap.size + os.size := by simp [World.plus]
theorem block_plus (w : World) (os : Array Obj) (d : Nat) (k : Nat) (h : k < w.heap.size) : (w.plus os d).heap[k]? = w.heap[k]? := by
  simp only [World.plus]
  rw [Array.getElem?_append_left h]
instance hasSize_plus (w : World) (os : Array Obj) (d s : Nat) [h : HasSize w s] : HasSize (w.plus os d) (s + os.size) := ⟨by rw [size_plus, h.eq]⟩
instance (priority := 500) has_plus (w : World) (os : Array Obj) (d n : Nat) [h : Has w n] : Has (w.plus os d) n := ⟨by rw [size_plus]; exact Nat.lt_of_lt_of_le h.lt (Nat.le_add_right _ _)⟩
theorem cell_plus0 (w : World) (os : Array Obj) (d n i : Nat) (h : n < w.heap.size) : (w.plus os d).cell? ⟨n, i, none⟩ = w.cell? ⟨n, i, none⟩ := by
  simp only [World.cell?, block_plus w os d n h]
theorem frozen_plus0 (w : World) (os : Array Obj) (d n i : Nat) (h : n < w.heap.size) : (w.plus os d).frozen? ⟨n, i, none⟩ = w.frozen? ⟨n, i, none⟩ := by
  simp only [World.frozen?, block_plus w os d n h]
theorem setCell_plus0 (w : World) (os : Array Obj) (d n i : Nat) (v : Value) (h : n < w.heap.size) :
    (w.plus os d).setCell ⟨n, i, none⟩ v = (w.setCell ⟨n, i, none⟩ v).plus os d := by
  unfold World.setCell World.plus
  congr 1
  apply Array.ext_getElem?
  intro k
  simp only [Array.getElem?_modify, Array.getElem?_append, Array.size_modify]
  by_cases hk : k < w.heap.size
  · simp [hk]
  · have : n ≠ k := by omega
    simp [hk, this]
section
variable (w : World) (n i : Nat) [hn : Has w n]
@[go_sem] theorem cell_plus (os : Array Obj) (d : Nat) : (w.plus os d).cell? ⟨n, i, none⟩ = w.cell? ⟨n, i, none⟩ := cell_plus0 w os d n i hn.lt
@[go_sem] theorem frozen_plus (os : Array Obj) (d : Nat) : (w.plus os d).frozen? ⟨n, i, none⟩ = w.frozen? ⟨n, i, none⟩ := frozen_plus0 w os d n i hn.lt
@[go_sem] theorem setCell_plus (os : Array Obj) (d : Nat) (v : Value) : (w.plus os d).setCell ⟨n, i, none⟩ v = (w.setCell ⟨n, i, none⟩ v).plus os d := setCell_plus0 w os d n i v hn.lt
@[go_sem] theorem shape_plus (os : Array Obj) (d : Nat) : (w.plus os d).shape? n = w.shape? n := by
  simp only [World.shape?, block_plus w os d n hn.lt]
end
@[go_sem] theorem plus_drew (w : World) (os : Array Obj) (d : Nat) : w.drew.plus os d = w.plus os d := rfl
theorem below_plus {B : Nat} {a w : World} (h : Below B a w) (hB : B ≤ w.heap.size) (os : Array Obj) (d : Nat) : Below B a (w.plus os d) :=
  h.trans ⟨rfl, rfl, rfl, by simp, fun k hk => block_plus _ _ _ _ (by omega)⟩
theorem block_plus' (w : World) (os : Array Obj) (d n : Nat) [h : Has w n] : (w.plus os d).heap[n]? = w.heap[n]? := block_plus w os d n h.lt
theorem own_plus {w : World} {B0 E size n : Nat} {sv : Value} {xs : List Value} (h : w.ownsRow B0 E size sv n xs) (os : Array Obj) (d : Nat) : (w.plus os d).ownsRow B0 E size sv n xs :=
  own_below h (below_plus (Below.refl _ _) (Nat.le_refl _) os d)
theorem own_lt {w : World} {B0 E size n : Nat} {sv : Value} {xs : List Value} (h : w.ownsRow B0 E size sv n xs) : ∀ g, sv.ownBlock = some g → g < w.heap.size := by
  intro g e
  rcases h.2 with ⟨rfl, -⟩ | ⟨k, cap, cur, rfl, -, hk, -⟩
  · cases e
  · simp only [Value.ownBlock, Option.some.injEq] at e
    subst e
    exact lt_of_block hk
theorem step_app2 {ops : Array Oper} {dst : Option Nat} {ty : TypeId} {ps : String} {af : Array Edge} {a : Act} {w : World} {K : Act → World → Prop} {Q : Exit → Act → World → Prop} {E : Prop} {s x : Operand} {t : TypeId}
    (base : Nat) (e : TypeId) (i : TypeInfo) (z : Value) (size bytes : Nat) (ht : Tryz.prog.underlying t = some (.slice e)) (hi : Tryz.prog.info? e = some i) (hz : i.zero = some z)
    (hsize : i.size = size) (hby : i.bytes = bytes) (hzs : z.cells.size = size) (hsz : 0 < size) (v : Value) (n : Nat) (xs : List Value) (hs : a.eval s = v) (hown : w.ownsRow base e size v n xs)
    (news : List Value) (hx : ∃ ad c, a.eval x = .slice (some ad) 1 c ∧ ∀ j u, news[j]? = some u → w.cell? (ad.add j) = some u) (hl : news.length = size) (h1 : ∀ u ∈ news, u.oneCell' = true)
    (h63 : n + 1 ≤ maxLen) (hbytes : (n + 1) * bytes ≤ 140737488355328) (hbase : base ≤ w.heap.size)
    (h : ∀ g cap w', w'.ownsRow base e size (.slice (some ⟨g, 0, none⟩) (n + 1) cap) (n + 1) (xs ++ news) → w.grownBy w' v.ownBlock → (v.ownBlock = some g ∨ g = w.heap.size) → g < w'.heap.size → K (a.put dst (.slice (some ⟨g, 0, none⟩) (n + 1) cap)) w') :
    if Region.wanted { dst := dst, op := .call { callee := .builtin .append, args := #[s, x], argTypes := #[t, t] }, type := ty, pos := ps, after := af, guard := none } (yielded ops a.tmps) = true then Oper.wp Tryz.prog { dst := dst, op := .call { callee := .builtin .append, args := #[s, x], argTypes := #[t, t] }, type := ty, pos := ps, after := af, guard := none } a w K Q else E :=
  step_app rfl s x t rfl base e i z size bytes ht hi hz hsize hby hzs hsz v n xs hs hown news hx hl h1 h63 hbytes hbase h
end Go.Proofs.YtnagagcgmfkjjaaGreatDoor
