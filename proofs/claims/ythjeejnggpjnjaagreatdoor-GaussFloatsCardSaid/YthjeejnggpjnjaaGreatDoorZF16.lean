/- A part: AP, AQ. -/
import Derived.Test.YthjeejnggpjnjaaGreatDoorZF15
import Derived.Laws.BytesString
set_option linter.unusedSimpArgs false
set_option linter.unusedVariables false
set_option maxRecDepth 100000
set_option maxHeartbeats 16000000
set_option synthInstance.maxHeartbeats 2000000
set_option synthInstance.maxSize 100000
namespace Go.Proofs.YthjeejnggpjnjaaGreatDoor
open Go.RowKit
theorem padf_succ (m x : Nat) : padf (m + 1) x = padf m (x / 10) ++ [UInt8.ofNat (48 + x % 10)] := by
 unfold padf; by_cases h : x = 0
 · subst h; rw [Nat.zero_div, figs_0]; simp only [List.length_nil, Nat.sub_zero, List.append_nil]; rw [List.replicate_succ']; rfl
 · rw [figs_pos h, List.length_append, List.length_singleton, Nat.add_sub_add_right, List.append_assoc]
theorem padf_zero (x : Nat) : padf 0 x = figs x := by unfold padf; simp
theorem figs_words (n : Nat) : (figs n).length ≤ 10 * (words n).length := by
 refine figs_len.1 (Nat.lt_of_lt_of_le (words_lt n) ?_)
 rw [Nat.pow_mul]; exact Nat.pow_le_pow_left (by decide) _
theorem tell_more {n q r : Nat} (hq : q = n / 1000000000) (hr : r = n % 1000000000) (h : q ≠ 0) : figs n = figs q ++ padf 9 r := by
 rw [hq, hr]; exact figs_split n 9 (by rw [hq] at h; exact h)
theorem tell_last {n q r : Nat} (hq : q = n / 1000000000) (hr : r = n % 1000000000) (h : q = 0) : figs n = figs r := by
 congr 1
 omega
def u8s (L : List UInt8) : List Value := L.map fun c : UInt8 => Value.int .u8 c.toNat
theorem u8s_app (L : List UInt8) (c : UInt8) : u8s (L ++ [c]) = u8s L ++ [Value.int .u8 c.toNat] := by unfold u8s; rw [List.map_append]; rfl
theorem u8s_len (L : List UInt8) : (u8s L).length = L.length := by simp [u8s]
def Ob (w : World) (B : Nat) (v : Value) (L : List UInt8) : Prop := w.ownsRow B 5 1 v L.length (u8s L)
theorem Ob.nil (w : World) (B : Nat) : Ob w B (.slice none 0 0) [] := ⟨rfl, .inl ⟨rfl, rfl⟩⟩
theorem Ob.keep {w w' : World} {B0 B g : Nat} {v : Value} {L : List UInt8} (h : Ob w B0 v L) (k : Keeps B [g] w w') (hB : w.heap.size ≤ B) (hg : v.ownBlock ≠ some g) : Ob w' B0 v L := by
 rcases h.2 with h0 | ⟨q, cap, cur, he, hq, hb, h1, h2, h3, h4⟩
 · exact ⟨h.1, .inl h0⟩
 · subst he
   exact ⟨h.1, .inr ⟨q, cap, cur, rfl, hq, (k.block q (Nat.lt_of_lt_of_le (lt_of_block hb) hB) (by
    intro hm; rw [List.mem_singleton] at hm; exact hg (by rw [hm]; rfl))).trans hb, h1, h2, h3, h4⟩⟩
theorem Ob.below {w w' : World} {B0 : Nat} {v : Value} {L : List UInt8} (h : Ob w B0 v L) (k : Below w.heap.size w w') : Ob w' B0 v L := by
 rcases h.2 with h0 | ⟨q, cap, cur, he, hq, hb, h1, h2, h3, h4⟩
 · exact ⟨h.1, .inl h0⟩
 · subst he; exact ⟨h.1, .inr ⟨q, cap, cur, rfl, hq, (k.block q (lt_of_block hb)).trans hb, h1, h2, h3, h4⟩⟩
theorem Ob.apart {w : World} {B0 g : Nat} {v : Value} {L : List UInt8} {M : List Nat} (h : Ob w B0 v L) (r : Ro w g M) : v.ownBlock ≠ some g := by
 intro e; rcases h.2 with ⟨rfl, -⟩ | ⟨q, cap, cur, rfl, hq, hb, -⟩
 · cases e
 · simp only [Value.ownBlock, Option.some.injEq] at e; subst e; have := hb.symm.trans r
   simp at this
theorem Ro.grown {w w' : World} {v : Option Nat} {g : Nat} {M : List Nat} (r : Ro w g M) (h : w.grownBy w' v) (hv : v ≠ some g) : Ro w' g M := (h.block g r.lt (fun e => hv e.symm)).trans r
theorem wok_split {Q : List Nat} (h : Wok Q) : ∃ Z, Q = words (val Q) ++ Z := by
 induction Q with
 | nil => exact ⟨[], by rw [show val [] = 0 from rfl, words_0]; rfl⟩
 | cons x Q ih =>
   obtain ⟨Z, hZ⟩ := ih h.tail; have hx := h.head; by_cases h0 : x + 4294967296 * val Q = 0
   · exact ⟨x :: Q, by rw [val, h0, words_0]; rfl⟩
   · refine ⟨Z, ?_⟩
     rw [val, words_pos h0, show (x + 4294967296 * val Q) % 4294967296 = x by omega, show (x + 4294967296 * val Q) / 4294967296 = val Q by omega]
     rw [List.cons_append, ← hZ]
def TellI (w : World) (g cap N n : Nat) (D : List UInt8) (vb : Value) (wr : World) : Prop :=
 ∃ Z, Ro wr g (words n ++ Z) ∧ (words n).length ≤ cap ∧ Ob wr w.heap.size vb D ∧ figs N = figs n ++ D.reverse ∧ Below w.heap.size w wr ∧ n ≤ N
def DivI (w : World) (g n : Nat) (Z : List Nat) (D : List UInt8) (vb : Value) (j r : Nat) (Q : List Nat) (wr : World) : Prop :=
 Q.length + j = (words n).length ∧ Wok Q ∧ r < 1000000000 ∧ val ((words n).drop j) = 1000000000 * val Q + r ∧ Ro wr g ((words n).take j ++ (Q ++ Z)) ∧ Ob wr w.heap.size vb D ∧ Below w.heap.size w wr
def lenV : Value → Nat
 | .slice _ n _ => n
 | _ => 0
theorem Ob.lenV {w : World} {B : Nat} {v : Value} {L : List UInt8} (h : Ob w B v L) : lenV v = L.length := by
 rcases h.2 with ⟨rfl, h0⟩ | ⟨q, cap, cur, rfl, -⟩
 · exact h0.symm
 · rfl
theorem Ob.of_own {w : World} {B : Nat} {v : Value} {D D' DD : List UInt8} {b : Nat} (hDD : D ++ D' = DD) (hb : b < 256) (h : w.ownsRow B 5 1 v (DD.length + 1) (u8s DD ++ [.int .u8 (b : Int)])) : Ob w B v (D ++ (D' ++ [UInt8.ofNat b])) := by
 unfold Ob; rw [← List.append_assoc, hDD, List.length_append, List.length_singleton, u8s_app]; rw [show (UInt8.ofNat b).toNat = b by rw [UInt8.toNat_ofNat']; omega]
 exact h
theorem idx_fig (d : Nat) (h : d < 10) (w : World) : (Instr.index 9 (.string { data := #[48, 49, 50, 51, 52, 53, 54, 55, 56, 57, 97, 98, 99, 100, 101, 102, 103, 104, 105, 106, 107, 108, 109, 110, 111, 112, 113, 114, 115, 116, 117, 118, 119, 120, 121, 122] }) (.int .u32 d)).run Tryz.prog w = .ok (.int .u8 ((48 + d : Nat) : Int)) w := by
 have : d = 0 ∨ d = 1 ∨ d = 2 ∨ d = 3 ∨ d = 4 ∨ d = 5 ∨ d = 6 ∨ d = 7 ∨ d = 8 ∨ d = 9 := by omega
 rcases this with rfl | rfl | rfl | rfl | rfl | rfl | rfl | rfl | rfl | rfl
 all_goals (clear h; show Sem.run _ _ _ = _; first | kernel_rfl | rfl)
theorem info5 : (Tryz.prog.info? 5).map (fun i => (i.zero, i.size, i.bytes)) = some (some (.int .u8 0), 1, 1) := by kernel_rfl
def Rb (w : World) (g : Nat) (L : List UInt8) : Prop := w.heap[g]? = some (.cells (u8s L).toArray 5 (0, 0))
theorem Rb.lt {w : World} {g : Nat} {L : List UInt8} (h : Rb w g L) : g < w.heap.size := lt_of_block h
theorem u8s_get (L : List UInt8) (i : Nat) : (u8s L)[i]? = (L[i]?).map fun c : UInt8 => Value.int .u8 c.toNat := by simp [u8s]
theorem Rb.cell {w : World} {g : Nat} {L : List UInt8} (h : Rb w g L) {i : Nat} {c : UInt8} (hx : L[i]? = some c) : w.cell? ⟨g, i, none⟩ = some (.int .u8 c.toNat) := by
 rw [cell_of_block h, List.getElem?_toArray, u8s_get, hx]; rfl
theorem Rb.free {w : World} {g : Nat} {L : List UInt8} (h : Rb w g L) (i : Nat) : w.frozen? ⟨g, i, none⟩ = false := free_of_block h i
theorem Rb.set {w : World} {g : Nat} {L : List UInt8} (h : Rb w g L) (i : Nat) (c : UInt8) : Rb (w.setCell ⟨g, i, none⟩ (.int .u8 c.toNat)) g (L.set i c) := by
 have := set_of_block h i (.int .u8 c.toNat); rw [List.setIfInBounds_toArray] at this; unfold Rb u8s; rw [List.map_set]; exact this
theorem Ob.form {w : World} {B : Nat} {v : Value} {L : List UInt8} (h : Ob w B v L) (h0 : 0 < L.length) : ∃ g cap, v = .slice (some ⟨g, 0, none⟩) L.length cap ∧ B ≤ g ∧ L.length ≤ cap ∧ g < w.heap.size ∧ ∀ (i : Nat) (c : UInt8), L[i]? = some c → w.cell? ⟨g, i, none⟩ = some (.int .u8 c.toNat) := by
 rcases h.2 with ⟨-, h1⟩ | ⟨g, cap, cur, h1, h2, hb, h3, -, -, h4⟩
 · omega
 · refine ⟨g, cap, h1, h2, h3, lt_of_block hb, fun i c hx => ?_⟩
   have := congrArg (fun t => t[i]?) h4
   simp only [u8s_get, hx, Option.map_some] at this; rw [Nat.mul_one, List.getElem?_take] at this
   split at this
   · rw [Array.getElem?_toList] at this; rw [cell_of_block hb, this]
   · cases this
theorem made_bytes {w : World} {g B n : Nat} (h : w.ownsRow B 5 1 (.slice (some ⟨g, 0, none⟩) n n) n (madeCells (Value.int .u8 0).cells (n * 1)).toList) : Rb w g (List.replicate n 0) := by
 rcases h.2 with ⟨h0, -⟩ | ⟨k, cap, cur, he, hg, hb, h1, h2, h3, h4⟩
 · cases h0
 · simp only [Value.slice.injEq, Option.some.injEq, Addr.mk.injEq] at he; obtain ⟨⟨rfl, -, -⟩, -, rfl⟩ := he; rw [show (Value.int .u8 0).cells = #[Value.int .u8 0] from rfl, toList_madeCells_one, List.take_of_length_le (by rw [Array.length_toList, h3]; exact Nat.le_refl _), Nat.mul_one] at h4
   unfold Rb; rw [hb]
   have e : cur = (u8s (List.replicate n 0)).toArray := by
    rw [← Array.toList_inj, h4]; simp [u8s]
   rw [e]
theorem make_bytes {ops : Array Oper} {rest : List Oper} {o : Oper} {a : Act} {Q : Exit → Act → World → Prop} (w : World) (hg : o.guard = none) (l c : Operand) (hop : o.op = Op.makeSlice 232 l c)
 (L : Int) (n : Nat) (hl : a.eval l = .int .i64 L) (hc : a.eval c = .int .i64 L) (hL : L = (n : Int)) (hn : n ≤ 2199023255552)
 (hK : ∀ w1, Hid (Rb w1 w.heap.size (List.replicate n 0)) → Below w.heap.size w w1 → w.heap.size < w1.heap.size → wpList Tryz.prog ops Q rest (a.put o.dst (.slice (some ⟨w.heap.size, 0, none⟩) n n)) w1) :
 wpList Tryz.prog ops Q (o :: rest) a w := by
 obtain ⟨ti, hti, htz, hts, htb⟩ := info_parts info5; refine wpList_make_full w hg l c 232 hop w.heap.size 5 ti _ 1 Tryz.underlying232 hti htz hts .i64 .i64 L L n hl hc hL hL (by rw [htb]; omega) (by unfold maxLen; omega) (Nat.le_refl _) (fun w1 hown hgrow => ?_)
 have r := made_bytes hown; exact hK w1 r (Keeps.below ⟨hgrow.os, hgrow.tape, hgrow.output, hgrow.size, fun k hk _ => hgrow.block k hk (by simp)⟩) r.lt
theorem push_bytes (L : List UInt8) : ∀ (r : ByteArray), (L.map fun c : UInt8 => (c.toNat : Int)).foldl (fun r k => r.push (UInt8.ofNat k.toNat)) r = ⟨r.data ++ L.toArray⟩ := by
 induction L with
 | nil => intro r; simp
 | cons c L ih =>
   intro r; rw [List.map_cons, List.foldl_cons, ih]; show (⟨r.data.push _ ++ _⟩ : ByteArray) = _
   congr 1
   rw [← Array.toList_inj]
   simp
theorem bytes_str (w : World) (g cap : Nat) (L : List UInt8) (h : Rb w g L) :
 (convert 232 9 (.slice (some ⟨g, 0, none⟩) L.length cap)).run Tryz.prog w = .ok (.string ⟨L.toArray⟩) w := by
 rw [run_convert_bytes_string w 232 9 5 _ L.length cap Tryz.underlying232 Tryz.underlying5 Tryz.underlying9]
 have hl := run_loadCells_list (P := Tryz.prog) (w := w) ⟨g, 0, none⟩ ((L.map fun c : UInt8 => (c.toNat : Int)).map (Value.int .u8)) (fun j v hv => by
  have hadd : (⟨g, 0, none⟩ : Addr).add j = ⟨g, j, none⟩ := by unfold Addr.add; split <;> simp_all
  rw [hadd, cell_of_block h, List.getElem?_toArray]; rw [List.map_map] at hv; exact hv)
 rw [List.length_map, List.length_map] at hl; rw [run_bytesToString w ⟨g, 0, none⟩ L.length cap (L.map fun c : UInt8 => (c.toNat : Int)) hl, push_bytes]
 simp
theorem btrimR (g cap : Nat) (L Z : List Nat) (w : World) (h : Ro w g (L ++ Z)) (hl : Wok L) (hc : L.length ≤ cap) (hn : L.length ≤ 1099511627776) :
 Calls Tryz.prog 196 #[.slice (some ⟨g, 0, none⟩) L.length cap] w fun e w' => e = .returned (.slice (some ⟨g, 0, none⟩) (words (val L)).length cap) ∧ w' = w := by
 have H2 := hid h; have hg := h.lt; haveI : Has w g := ⟨hg⟩; clear h; go_enter Tryz.func196, Tryz.ntmps196; go_wp2_with fail
 go_loop [3] (fun s3 => ∃ k : Nat, s3 = .int .i64 k ∧ k ≤ L.length ∧ Hid (∀ i, k ≤ i → ∀ x, L[i]? = some x → x = 0)) (fun s3 => (intOf s3).toNat)
 case atStart => exact ⟨L.length, rfl, Nat.le_refl _, hid (fun i hi x hx => by rw [List.getElem?_eq_none hi] at hx; cases hx)⟩
 case round =>
  obtain ⟨k, rfl, hk, h0⟩ := hrel
  have fin : Hid ((k = 0 ∨ ∃ x, L[k - 1]? = some x ∧ x ≠ 0) → Value.slice (some ⟨g, 0, none⟩) k cap = .slice (some ⟨g, 0, none⟩) (words (val L)).length cap) := hid (fun hh => by
   have ht := words_cut hl h0.out hh; rw [← ht, List.length_take, Nat.min_eq_left hk])
  rcases Nat.eq_zero_or_pos k with rfl | hkp
  · go_wp2_with fail
    go_ret
    exact ⟨congrArg Ending.returned (fin.out (.inl (by trivial))), rfl⟩
  · obtain ⟨j, rfl⟩ : ∃ j, k = j + 1 := ⟨k - 1, by omega⟩
    have hj : j < L.length := by omega
    have hx : L[j]? = some L[j] := List.getElem?_eq_getElem hj; have hxB := hl.get hx; have cc := H2.out.cell (i := j) (x := L[j]) (by rw [List.getElem?_append_left hj]; exact hx)
    obtain ⟨x, hxx⟩ : ∃ x, x = L[j] := ⟨_, rfl⟩; rw [← hxx] at hx hxB cc; have HX := hid hx; have hjc : j < cap := by omega
    clear hx hxx; by_cases hz : x = 0
    · subst hz
      have h0' : Hid (∀ i, j ≤ i → ∀ x, L[i]? = some x → x = 0) := hid (fun i hi y hy => by
       rcases Nat.lt_or_eq_of_le hi with h | rfl
       · exact h0.out i h y hy
       · rw [HX.out] at hy; exact (Option.some.inj hy).symm)
      clear h0 fin; go_wp2_with fail
      exact ⟨⟨j, by rfl, by omega, h0'⟩, by simp [intOf]⟩
    · have hz' : ((x : Int) == 0) = false := by simp; omega
      have hxp : 0 < x := by omega
      have F := hid (fin.out (.inr ⟨x, HX.out, hz⟩)); clear h0 fin; go_wp2_with fail
      go_ret
      exact ⟨congrArg Ending.returned F.out, rfl⟩
theorem etrimR (g cap : Nat) (L Z : List Nat) (w : World) (h : Ro w g (L ++ Z)) (hl : Wok L) (hc : L.length ≤ cap) (hn : L.length ≤ 1099511627776) :
 Calls Tryz.prog 200 #[.slice (some ⟨g, 0, none⟩) L.length cap] w fun e w' => e = .returned (.slice (some ⟨g, 0, none⟩) (words (val L)).length cap) ∧ w' = w := by
 have H2 := hid h; have hg := h.lt; haveI : Has w g := ⟨hg⟩; clear h; go_enter Tryz.func200, Tryz.ntmps200; go_wp2_with fail
 go_loop [3] (fun s3 => ∃ k : Nat, s3 = .int .i64 k ∧ k ≤ L.length ∧ Hid (∀ i, k ≤ i → ∀ x, L[i]? = some x → x = 0)) (fun s3 => (intOf s3).toNat)
 case atStart => exact ⟨L.length, rfl, Nat.le_refl _, hid (fun i hi x hx => by rw [List.getElem?_eq_none hi] at hx; cases hx)⟩
 case round =>
  obtain ⟨k, rfl, hk, h0⟩ := hrel
  have fin : Hid ((k = 0 ∨ ∃ x, L[k - 1]? = some x ∧ x ≠ 0) → Value.slice (some ⟨g, 0, none⟩) k cap = .slice (some ⟨g, 0, none⟩) (words (val L)).length cap) := hid (fun hh => by
   have ht := words_cut hl h0.out hh; rw [← ht, List.length_take, Nat.min_eq_left hk])
  rcases Nat.eq_zero_or_pos k with rfl | hkp
  · go_wp2_with fail
    go_ret
    exact ⟨congrArg Ending.returned (fin.out (.inl (by trivial))), rfl⟩
  · obtain ⟨j, rfl⟩ : ∃ j, k = j + 1 := ⟨k - 1, by omega⟩
    have hj : j < L.length := by omega
    have hx : L[j]? = some L[j] := List.getElem?_eq_getElem hj; have hxB := hl.get hx; have cc := H2.out.cell (i := j) (x := L[j]) (by rw [List.getElem?_append_left hj]; exact hx)
    obtain ⟨x, hxx⟩ : ∃ x, x = L[j] := ⟨_, rfl⟩; rw [← hxx] at hx hxB cc; have HX := hid hx; have hjc : j < cap := by omega
    clear hx hxx; by_cases hz : x = 0
    · subst hz
      have h0' : Hid (∀ i, j ≤ i → ∀ x, L[i]? = some x → x = 0) := hid (fun i hi y hy => by
       rcases Nat.lt_or_eq_of_le hi with h | rfl
       · exact h0.out i h y hy
       · rw [HX.out] at hy; exact (Option.some.inj hy).symm)
      clear h0 fin; go_wp2_with fail
      exact ⟨⟨j, by rfl, by omega, h0'⟩, by simp [intOf]⟩
    · have hz' : ((x : Int) == 0) = false := by simp; omega
      have hxp : 0 < x := by omega
      have F := hid (fin.out (.inr ⟨x, HX.out, hz⟩)); clear h0 fin; go_wp2_with fail
      go_ret
      exact ⟨congrArg Ending.returned F.out, rfl⟩
theorem etext (gx : Nat) (N : Int) (w : World) (hx : In 123 w gx N) (h0 : N ≠ 0) (hl : (words N.natAbs).length ≤ 17179869184) :
 Calls Tryz.prog 204 #[.pointer (some ⟨gx, 0, none⟩), .int .i64 10] w fun e w' => e = .returned (.string ⟨(if N < 0 then 45 :: figs N.natAbs else figs N.natAbs).toArray⟩) ∧ Below w.heap.size w w' := by
 obtain ⟨vx, bx, wx⟩ := hx; obtain ⟨M, hM⟩ : ∃ M, M = N.natAbs := ⟨_, rfl⟩; rw [← hM] at wx hl; have CP := hid (fun w' (h : Below w.heap.size w w') => ecopied vx (words M) w' (wx.below h) (by omega))
 obtain ⟨ax, cx, rfl, -, -⟩ := wx.form; have BX := hid bx; have x0 := bx.cell (i := 0) rfl; have x1 := bx.cell (i := 1) rfl; haveI : Has w gx := ⟨bx.lt⟩; have hlen : (words M).length ≠ 0 := fun e => h0 (by have := words_len0.1 e; omega)
 have e0 : (((words M).length : Int) == 0) = false := beq_eq_false_iff_ne.2 (by omega)
 have HLL := hid hlen; obtain ⟨RS, hRS⟩ : ∃ RS, RS = (if N < 0 then 45 :: figs N.natAbs else figs N.natAbs) := ⟨_, rfl⟩
 rw [← hRS]; rw [← hM] at hRS; have HRS := hid hRS; have HM := hid hM; clear bx wx hlen h0 hM hRS; go_enter Tryz.func204, Tryz.ntmps204; go_wp2_with fail
 go_loop [5, 6] (fun sb sp => ∃ p : Nat, sb = .int .u32 (10 ^ p : Nat) ∧ sp = .int .i64 p ∧ 1 ≤ p ∧ p ≤ 9) (fun _ sp => 9 - (intOf sp).toNat)
 case atStart => exact ⟨1, rfl, rfl, by omega, by omega⟩
 case round =>
  obtain ⟨p, rfl, rfl, hp1, hp2⟩ := hrel; by_cases hp : p < 9
  · have h1 : 10 ^ p ≤ 10 ^ 8 := Nat.pow_le_pow_right (by decide) (by omega)
    have h2 : ((10 ^ (p + 1) : Nat) : Int) = ((10 ^ p : Nat) : Int) * 10 := by rw [Nat.pow_succ, Int.natCast_mul]; rfl
    rw [show (10 : Nat) ^ 8 = 100000000 from rfl] at h1
    have H2 := hid h2; clear h2; obtain ⟨B, hB⟩ : ∃ B, B = 10 ^ p := ⟨_, rfl⟩; rw [← hB] at h1 H2 ⊢; clear hB; go_wp2_with fail
    go_round
    case rel => exact ⟨p + 1, by rw [H2.out], by go_num, by omega, by omega⟩
    case measure => simp [intOf]; omega
  · obtain rfl : p = 9 := by omega
    rw [show ((10 ^ 9 : Nat) : Int) = 1000000000 from rfl, show ((9 : Nat) : Int) = 9 from rfl]
    clear hp hp1 hp2; go_wp2_with (go_at_call 199; (with_reducible refine (CP.out _ (Below.refl _ _)).mono ?_); rintro e w1 ⟨g, rfl, hR1, hgB, hb1⟩)
    go_loopw [7, 8] (fun vb vw wr => ∃ (n : Nat) (D : List UInt8), vw = .slice (some ⟨g, 0, none⟩) (words n).length (words M).length ∧ Hid (TellI w g (words M).length M n D vb wr)) (fun vb _ _ => 10 * (words M).length + 1 - lenV vb)
    case atStart => exact ⟨M, [], rfl, hid ⟨[], by rw [List.append_nil]; exact hR1, Nat.le_refl _, Ob.nil _ _, by simp, hb1, Nat.le_refl _⟩⟩
    case round =>
     obtain ⟨n, D, rfl, hT⟩ := hrel; obtain ⟨wo, rfl⟩ : ∃ wo : World, wo = wr := ⟨_, rfl⟩; by_cases hn : n = 0
     · subst hn; obtain ⟨Z, t1, t2, t3, t4, t5, t6⟩ := hT.out; rw [figs_0, List.nil_append] at t4; rw [show (words 0).length = 0 by rw [words_0]; rfl]
       have DM : D.length ≤ 171798691840 := by
        have h1 := congrArg List.length t4; have h2 := figs_words M; rw [List.length_reverse] at h1; omega
       have DL : 0 < D.length := by
        rcases Nat.eq_zero_or_pos D.length with h | h
        · exfalso
          have h1 := congrArg List.length t4; rw [List.length_reverse, h] at h1; have h2 := figs_len (n := M) (k := 0); have h3 := words_len0 (n := M); have h4 := HLL.out; omega
        · exact h
       obtain ⟨gb, cb, rfl, hgb, hcb, hgl, hce⟩ := t3.form DL; have xs0 := (BX.out.below t5).cell (i := 0) rfl; haveI : Has wo gx := ⟨(BX.out.below t5).lt⟩; have T4 := hid t4; have t5s := t5.size; clear hT t1 t2 t4 t6 x0 x1; by_cases hneg : N < 0
       focus
        rw [decide_eq_true hneg] at xs0; have HRS2 : Hid (RS = (D ++ [45]).reverse) := hid (by rw [HRS.out, if_pos hneg, T4.out, List.reverse_append]; rfl)
        have l1a : Hid (Ob (wo.alloc (.cells #[.int .u8 45] 5)) w.heap.size (.slice (some ⟨gb, 0, none⟩) D.length cb) D) := hid (t3.below ((Below.refl _ _).alloc (Nat.le_refl _) _)); obtain ⟨ti, hti, htz, hts, htb⟩ := info_parts info5; clear hneg t3 hce hgl; go_upto_region 27 with (at_builtin; refine list_app (by rfl) _ _ _ (by rfl) w.heap.size 5 ti _ 1 1 Tryz.underlying232 hti htz hts htb rfl (by omega) (.slice (some ⟨gb, 0, none⟩) D.length cb) D.length (u8s D) (by rfl) l1a.out [.int .u8 45] ⟨_, _, rfl, World.news_of_block (cs := #[.int .u8 45]) (t := 5) (fr := (0, 0)) (by simp only [block_at])⟩ (by rfl) (by simp [Value.oneCell']) (by unfold maxLen; omega) (by omega) (by simp; omega) ?_; intro ga ca wa hown hgrow hat hlt)
        have ob := Ob.of_own (D := D) (D' := []) (b := 45) (by simp) (by decide) hown
        rw [List.nil_append] at ob; have hbx : Below w.heap.size w wa := Below.trans (t5.alloc t5s _) (own_grow l1a.out (by simp; omega) hgrow)
        rw [show D.length + 1 = (D ++ [45]).length by simp] at ob ⊢
        rw [show UInt8.ofNat 45 = (45 : UInt8) from rfl] at ob
        obtain ⟨gb2, cb2, he2, -, hcb3, hgl, hce⟩ := ob.form (by simp)
        simp only [Value.slice.injEq, Option.some.injEq, Addr.mk.injEq] at he2; obtain ⟨⟨rfl, -, -⟩, -, rfl⟩ := he2; have hD2 : (D ++ [45]).length ≤ 1099511627776 := by simp; omega
        have DP : 0 < (D ++ [45]).length := by simp
        clear hown hgrow hat hlt ob l1a hgb hcb DL DM; generalize D ++ [45] = D2 at *; obtain ⟨gb, rfl⟩ : ∃ k, k = ga := ⟨_, rfl⟩; obtain ⟨cb, rfl⟩ : ∃ k, k = ca := ⟨_, rfl⟩; have hnz : D2.length ≤ 1099511627776 := hD2; go_wp2_with (at_make; refine make_bytes _ rfl _ _ rfl _ D2.length rfl rfl rfl (by omega) ?_; intro wm hro hbm hltm)
        have hbm2 : Below w.heap.size w wm := Below.trans hbx (below_low hbm hbx.size); have hgne : gb ≠ wa.heap.size := by omega
        have hce2 : ∀ (i : Nat) (c : UInt8), D2[i]? = some c → wm.cell? ⟨gb, i, none⟩ = some (.int .u8 c.toNat) := fun i c h => (hbm.cell (p := ⟨gb, i, none⟩) hgl).trans (hce i c h)
        obtain ⟨go, hgo⟩ : ∃ go, go = wa.heap.size := ⟨_, rfl⟩
       rotate_left
       focus
        rw [decide_eq_false hneg] at xs0; have HRS2 : Hid (RS = D.reverse) := hid (by rw [HRS.out, if_neg hneg, T4.out])
        have hbx := t5; have hD2 : D.length ≤ 1099511627776 := by omega
        clear hneg t3 T4 hgb; generalize D = D2 at *; have hnz : D2.length ≤ 1099511627776 := hD2; go_wp2_with (at_make; refine make_bytes _ rfl _ _ rfl _ D2.length rfl rfl rfl (by omega) ?_; intro wm hro hbm hltm)
        have hbm2 : Below w.heap.size w wm := Below.trans hbx (below_low hbm hbx.size); have hgne : gb ≠ wo.heap.size := by omega
        have hce2 : ∀ (i : Nat) (c : UInt8), D2[i]? = some c → wm.cell? ⟨gb, i, none⟩ = some (.int .u8 c.toNat) := fun i c h => (hbm.cell (p := ⟨gb, i, none⟩) hgl).trans (hce i c h)
        obtain ⟨go, hgo⟩ : ∃ go, go = wo.heap.size := ⟨_, rfl⟩
       rotate_left
       all_goals
        rw [← hgo] at hro hgne ⊢; have hgoB : w.heap.size ≤ go := by rw [hgo]; exact hbx.size
        have hgb2 : gb < wm.heap.size := Nat.lt_of_lt_of_le hgl hbm.size; have HCE := hid hce2; have NE := hid hgne; have HB2 := hid hbm2; clear hce hce2 hbm hbm2 hgo hgl hbx hgne; go_loopw [15] (fun s15 wy => ∃ j : Nat, s15 = .int .i64 j ∧ j ≤ D2.length ∧ Hid (Rb wy go (D2.reverse.take j ++ List.replicate (D2.length - j) 0) ∧ Below w.heap.size w wy ∧ (∀ (i : Nat) (c : UInt8), D2[i]? = some c → wy.cell? ⟨gb, i, none⟩ = some (.int .u8 c.toNat)) ∧ gb < wy.heap.size)) (fun s15 _ => D2.length - (intOf s15).toNat)
        case atStart => exact ⟨0, rfl, Nat.zero_le _, hid ⟨by rw [List.take_zero, List.nil_append, Nat.sub_zero]; exact hro.out, HB2.out, HCE.out, hgb2⟩⟩
        case round =>
         obtain ⟨j, rfl, hj, hJ⟩ := hrel; by_cases hjl : j < D2.length
         · obtain ⟨j1, j2, j3, j4⟩ := hJ.out; obtain ⟨ix, hix⟩ : ∃ ix, ix = D2.length - 1 - j := ⟨_, rfl⟩; have hixI : (D2.length : Int) - 1 - (j : Int) = (ix : Int) := by omega
           have hixl : ix < D2.length := by omega
           have hixl2 : (ix : Int) < (D2.length : Int) := by omega
           have hjI : (j : Int) < (D2.length : Int) := by omega
           obtain ⟨c, hc⟩ : ∃ c, c = D2[ix] := ⟨_, rfl⟩; have hcx : D2[ix]? = some c := by rw [hc]; exact List.getElem?_eq_getElem hixl
           have cb0 := j3 ix c hcx
           have hrv : D2.reverse[j]? = some c := by
            rw [List.getElem?_reverse hjl, ← hix]; exact hcx
           have hsz : (D2.reverse.take j).length = j := by rw [List.length_take, List.length_reverse]; omega
           have hrow : D2.reverse.take j ++ List.replicate (D2.length - j) 0 = D2.reverse.take j ++ 0 :: List.replicate (D2.length - (j + 1)) 0 := by
            rw [show D2.length - j = D2.length - (j + 1) + 1 by omega, List.replicate_succ]
           rw [hrow] at j1; have c1 := j1.cell (i := j) (c := 0) (by rw [List.getElem?_append_right (by omega), hsz, Nat.sub_self]; rfl)
           have f1 := j1.free j; haveI : Has wr go := ⟨j1.lt⟩; haveI : Has wr gb := ⟨j4⟩; have S1 := j1.set j c
           have hset : (D2.reverse.take j ++ 0 :: List.replicate (D2.length - (j + 1)) 0).set j c = D2.reverse.take (j + 1) ++ List.replicate (D2.length - (j + 1)) 0 := by
            rw [List.set_append_right _ _ (by omega), hsz, Nat.sub_self, List.set_cons_zero, List.take_add_one, hrv, List.append_assoc]
            rfl
           rw [hset] at S1
           have NX : Hid (Rb (wr.setCell ⟨go, j, none⟩ (.int .u8 (c.toNat : Int))) go (D2.reverse.take (j + 1) ++ List.replicate (D2.length - (j + 1)) 0) ∧ Below w.heap.size w (wr.setCell ⟨go, j, none⟩ (.int .u8 (c.toNat : Int))) ∧ (∀ (i : Nat) (c' : UInt8), D2[i]? = some c' → (wr.setCell ⟨go, j, none⟩ (.int .u8 (c.toNat : Int))).cell? ⟨gb, i, none⟩ = some (.int .u8 c'.toNat)) ∧ gb < (wr.setCell ⟨go, j, none⟩ (.int .u8 (c.toNat : Int))).heap.size) := hid ⟨S1, ((Keeps.of_below (S := []) j2).set (Or.inr hgoB) _ _).below, fun i c' h => by
            rw [World.cell?_setCell_other _ _ _ _ (fun e => NE.out (congrArg Addr.block e).symm)]
            exact j3 i c' h, by rw [World.size_setCell]; exact j4⟩
           obtain ⟨cn, hcn⟩ : ∃ cn : Nat, cn = c.toNat := ⟨_, rfl⟩; rw [← hcn] at cb0 NX; have hcb2 : ix < cb := by omega
           clear j1 j2 j3 j4 S1 hset hrow hrv hcx hc hix hJ hsz hcn; go_wp2_with fail
           go_roundw
           case rel => exact ⟨j + 1, by go_num, by omega, NX⟩
           case measure => simp [intOf]; omega
         · obtain rfl : j = D2.length := by omega
           obtain ⟨j1, j2, -, -⟩ := hJ.out; rw [Nat.sub_self, List.replicate_zero, List.append_nil, ← List.length_reverse, List.take_length] at j1; have hcv := bytes_str wr go D2.length D2.reverse j1; rw [List.length_reverse] at hcv; have J2 := hid j2; clear j1 j2 hJ; go_wp2_with fail
           go_ret
           exact ⟨by rw [← HRS2.out]; rfl, J2.out⟩
     · obtain ⟨Z, IZ⟩ : ∃ Z, Hid (Ro wo g (words n ++ Z) ∧ (words n).length ≤ (words M).length ∧ Ob wo w.heap.size _ D ∧ figs M = figs n ++ D.reverse ∧ Below w.heap.size w wo ∧ n ≤ M) := ⟨_, hid hT.out.choose_spec⟩; have hcap : (words n).length ≤ (words M).length := IZ.out.2.1
       have hnl : (0 : Int) < ((words n).length : Int) := by
        have : (words n).length ≠ 0 := fun e => hn (words_len0.1 e)
        omega
       go_wp2_with fail
       go_loopw [9, 10] (fun sr si wx => ∃ (j r : Nat) (Q : List Nat), sr = .int .u64 r ∧ si = .int .i64 ((j : Int) - 1) ∧ j ≤ (words n).length ∧ Hid (DivI w g n Z D u7 j r Q wx)) (fun _ si _ => (intOf si + 1).toNat)
       case atStart => exact ⟨(words n).length, 0, [], rfl, by go_num, Nat.le_refl _, hid ⟨by simp, Wok.nil, by decide, by simp [val], by rw [List.take_length]; exact IZ.out.1, IZ.out.2.2.1, IZ.out.2.2.2.2.1⟩⟩
       case round =>
        obtain ⟨j, r, Q, rfl, rfl, hj, hI⟩ := hrel; rcases j with _ | j
        · skip
          obtain ⟨i1, i2, i3, i4, i5, i6, i7⟩ := id hI.out; rw [List.drop_zero, val_words] at i4; rw [List.take_zero, List.nil_append] at i5; obtain ⟨Z1, hZ1⟩ := wok_split i2; obtain ⟨q, hq⟩ : ∃ q, q = val Q := ⟨_, rfl⟩; have TR := etrimR g (words M).length Q Z wr i5 i2 (by omega) (by omega)
          rw [← hq, show Q.length = (words n).length by omega] at TR
          rw [← hq] at i4 hZ1; obtain ⟨Z2, hZ2⟩ : ∃ Z2, Z2 = Z1 ++ Z := ⟨_, rfl⟩; have hRq : Ro wr g (words q ++ Z2) := by rw [hZ2, ← List.append_assoc, ← hZ1]; exact i5
          have hq1 : q = n / 1000000000 := by omega
          have hq2 : r = n % 1000000000 := by omega
          have hqn : q < n := by omega
          have HQ1 := hid hq1; have HQ2 := hid hq2; have r10 : r < 10 ^ 9 := i3; have i3' : r < 1000000000 := i3; have QLE : Hid ((words q).length ≤ (words M).length) := hid (Nat.le_trans (len_mono (Nat.le_of_lt hqn)) hcap)
          have DLB : D.length ≤ 171798691840 := by
           have h1 := congrArg List.length IZ.out.2.2.2.1; have h2 := figs_words M; rw [List.length_append, List.length_reverse] at h1; omega
          have h2r : q = 0 → r ≠ 0 := fun h => by omega
          clear hq hq1 hq2 hZ1 hZ2 i1 i2 i3 i4 i5 hI; obtain ⟨lq, hlq⟩ : ∃ lq, lq = (words q).length := ⟨_, rfl⟩; rw [← hlq] at TR; have HLQ := hid hlq; by_cases hq0 : q = 0
          · have h2r := h2r hq0; have HQ0 := hid hq0; have w0 : lq = 0 := by rw [hlq, hq0, words_0]; rfl
            subst w0; clear hq0 hlq; go_wp2_with (go_at_call 200; (with_reducible refine TR.mono ?_); rintro e w' ⟨rfl, hw⟩; obtain rfl := hw.symm)
            go_loopw [7, 12, 13] (fun vd vr vi wx => ∃ (k r' : Nat) (D' : List UInt8), vr = .int .u32 r' ∧ vi = .int .i64 k ∧ k ≤ 9 ∧ r' < 10 ^ (9 - k) ∧ D'.length = k ∧ Hid (Ob wx w.heap.size vd (D ++ D') ∧ figs r = figs r' ++ D'.reverse ∧ Ro wx g (words q ++ Z2) ∧ Below w.heap.size w wx)) (fun _ _ vi _ => 9 - (intOf vi).toNat)
            case atStart => exact ⟨0, r, [], rfl, rfl, by omega, by omega, rfl, hid ⟨by rw [List.append_nil]; exact i6, by simp, hRq, i7⟩⟩
            case round =>
             obtain ⟨k, r', D', rfl, rfl, hk, hr', hDk, hL⟩ := hrel; obtain ⟨l1, l2, l3, l4⟩ := id hL.out; by_cases hk9 : r' ≠ 0
             · have hk99 : k < 9 := (by rcases Nat.lt_or_eq_of_le hk with h | h; exact h; subst h; exfalso; apply hk9; simpa using hr')
               have hk8 : (k : Int) < 9 := by omega
               have hrp : decide ((0 : Int) < (r' : Int)) = true := decide_eq_true (by omega)
               have hrp2 : (0 : Int) < (r' : Int) := by omega
               have hrp3 : 0 < r' := by omega
               obtain ⟨dg, hdg⟩ : ∃ dg, dg = r' % 10 := ⟨_, rfl⟩; have hdg9 : dg < 10 := by omega
               have m1 : (r' : Int) % 10 = (dg : Int) := by omega
               obtain ⟨rn, hrn⟩ : ∃ rn, rn = r' / 10 := ⟨_, rfl⟩; have m2 : (r' : Int) / 10 = (rn : Int) := by omega
               have hidx := fun w => idx_fig dg hdg9 w
               obtain ⟨by_, hby⟩ : ∃ b : Nat, b = 48 + dg := ⟨_, rfl⟩; rw [← hby] at hidx; have HDG := hid hdg; have HRN := hid hrn; have HBY := hid hby; have l1a : Hid (Ob (wr.alloc (.cells #[.int .u8 (by_ : Int)] 5)) w.heap.size u7 (D ++ D')) := hid (l1.below ((Below.refl _ _).alloc (Nat.le_refl _) _)); have hDl : (D ++ D').length ≤ 1099511627776 := by rw [List.length_append]; omega
               have hrnB : rn < 4294967296 := by have : (10 : Nat) ^ (9 - k) ≤ 10 ^ 9 := Nat.pow_le_pow_right (by decide) (by omega); rw [show (10 : Nat) ^ 9 = 1000000000 from rfl] at this; omega
               have hr'H := hid hr'; have l4s := l4.size; have hDk := hDk; generalize hDD : D ++ D' = DD at *; have HDD := hid hDD; obtain ⟨ti, hti, htz, hts, htb⟩ := info_parts info5; clear hdg hrn hby hDD; go_wp2_with (at_builtin; refine list_app (by rfl) _ _ _ (by rfl) w.heap.size 5 ti _ 1 1 Tryz.underlying232 hti htz hts htb rfl (by omega) u7 DD.length (u8s DD) (by rfl) l1a.out [.int .u8 (by_ : Int)] ⟨_, _, rfl, World.news_of_block (cs := #[.int .u8 (by_ : Int)]) (t := 5) (fr := (0, 0)) (by simp only [block_at])⟩ (by rfl) (by simp [Value.oneCell']) (by unfold maxLen; omega) (by omega) (by simp; omega) ?_; intro gb cp wa hown hgrow hat hlt)
               go_roundw
               case rel =>
                have hdg := HDG.out; have hrn := HRN.out; have hby := HBY.out; have hr2 := hr'H.out; have B3 : Below w.heap.size w wa := Below.trans (l4.alloc l4s _) (own_grow l1a.out (by simp; omega) hgrow)
                have R3 : Ro wa g (words q ++ Z2) := (l3.keep ((Below.refl _ _).alloc (Nat.le_refl _) _)).grown hgrow (l1a.out.apart (l3.keep ((Below.refl _ _).alloc (Nat.le_refl _) _))); refine ⟨k + 1, rn, D' ++ [UInt8.ofNat by_], by rfl, by go_num, by omega, ?_, by rw [List.length_append, List.length_singleton]; omega, hid ⟨Ob.of_own HDD.out (by omega) hown, ?_, R3, B3⟩⟩
                · rw [hrn, Nat.div_lt_iff_lt_mul (by decide)]
                  rw [show 9 - k = 9 - (k + 1) + 1 by omega, Nat.pow_succ] at hr2
                  exact hr2
                · rw [l2, figs_pos hk9, List.reverse_append, List.append_assoc, hrn, hby, hdg]; rfl
               case measure => simp [intOf]; omega
             · obtain rfl : r' = 0 := by omega
               have hDp : 0 < D'.length := (by rcases Nat.eq_zero_or_pos D'.length with h | h; (exfalso; rw [List.length_eq_zero_iff.1 h, figs_0] at l2; have h3 := congrArg List.length l2; have h4 : (figs r).length ≠ 0 := (fun h5 => h2r (by have := figs_len (n := r) (k := 0); omega)); exact h4 (by rw [h3]; rfl)); exact h)
               have LE := l1.lenV; rw [List.length_append] at LE; have FG : Hid (figs M = figs q ++ (D ++ D').reverse) := hid (by rw [IZ.out.2.2.2.1, tell_last HQ1.out HQ2.out HQ0.out, l2, HQ0.out, figs_0, List.nil_append, List.nil_append, List.reverse_append])
               have DB : (D ++ D').length ≤ 10 * (words M).length := by
                have h1 := congrArg List.length FG.out; have h2 := figs_words M; rw [List.length_append, List.length_reverse] at h1; omega
               rw [List.length_append] at DB; have NXT : Hid (TellI w g (words M).length M q (D ++ D') _ wr) := hid ⟨Z2, l3, QLE.out, l1, FG.out, l4, by have := IZ.out.2.2.2.2.2; omega⟩
               have LV := IZ.out.2.2.1.lenV; clear l2; go_wp2_with fail
               all_goals
                go_roundw
                case rel => exact ⟨q, D ++ D', by rw [← HLQ.out], NXT⟩
                case measure =>
                 show 10 * (words M).length + 1 - lenV _ < 10 * (words M).length + 1 - lenV _
                 rw [LE, LV]; omega
          · have hql : (0 : Int) < (lq : Int) := by
             have : (words q).length ≠ 0 := fun e => hq0 (words_len0.1 e)
             omega
            clear hlq; go_wp2_with (go_at_call 200; (with_reducible refine TR.mono ?_); rintro e w' ⟨rfl, hw⟩; obtain rfl := hw.symm)
            go_loopw [7, 12, 13] (fun vd vr vi wx => ∃ (k r' : Nat) (D' : List UInt8), vr = .int .u32 r' ∧ vi = .int .i64 k ∧ k ≤ 9 ∧ r' < 10 ^ (9 - k) ∧ D'.length = k ∧ Hid (Ob wx w.heap.size vd (D ++ D') ∧ padf 9 r = padf (9 - k) r' ++ D'.reverse ∧ Ro wx g (words q ++ Z2) ∧ Below w.heap.size w wx)) (fun _ _ vi _ => 9 - (intOf vi).toNat)
            case atStart => exact ⟨0, r, [], rfl, rfl, by omega, by omega, rfl, hid ⟨by rw [List.append_nil]; exact i6, by simp, hRq, i7⟩⟩
            case round =>
             obtain ⟨k, r', D', rfl, rfl, hk, hr', hDk, hL⟩ := hrel; obtain ⟨l1, l2, l3, l4⟩ := id hL.out; by_cases hk9 : k < 9
             · skip
               have hk8 : (k : Int) < 9 := by omega
               skip
               skip
               skip
               obtain ⟨dg, hdg⟩ : ∃ dg, dg = r' % 10 := ⟨_, rfl⟩; have hdg9 : dg < 10 := by omega
               have m1 : (r' : Int) % 10 = (dg : Int) := by omega
               obtain ⟨rn, hrn⟩ : ∃ rn, rn = r' / 10 := ⟨_, rfl⟩; have m2 : (r' : Int) / 10 = (rn : Int) := by omega
               have hidx := fun w => idx_fig dg hdg9 w
               obtain ⟨by_, hby⟩ : ∃ b : Nat, b = 48 + dg := ⟨_, rfl⟩; rw [← hby] at hidx; have HDG := hid hdg; have HRN := hid hrn; have HBY := hid hby; have l1a : Hid (Ob (wr.alloc (.cells #[.int .u8 (by_ : Int)] 5)) w.heap.size u7 (D ++ D')) := hid (l1.below ((Below.refl _ _).alloc (Nat.le_refl _) _)); have hDl : (D ++ D').length ≤ 1099511627776 := by rw [List.length_append]; omega
               have hrnB : rn < 4294967296 := by have : (10 : Nat) ^ (9 - k) ≤ 10 ^ 9 := Nat.pow_le_pow_right (by decide) (by omega); rw [show (10 : Nat) ^ 9 = 1000000000 from rfl] at this; omega
               have hr'H := hid hr'; have l4s := l4.size; have hDk := hDk; generalize hDD : D ++ D' = DD at *; have HDD := hid hDD; obtain ⟨ti, hti, htz, hts, htb⟩ := info_parts info5; clear hdg hrn hby hDD; go_wp2_with (at_builtin; refine list_app (by rfl) _ _ _ (by rfl) w.heap.size 5 ti _ 1 1 Tryz.underlying232 hti htz hts htb rfl (by omega) u7 DD.length (u8s DD) (by rfl) l1a.out [.int .u8 (by_ : Int)] ⟨_, _, rfl, World.news_of_block (cs := #[.int .u8 (by_ : Int)]) (t := 5) (fr := (0, 0)) (by simp only [block_at])⟩ (by rfl) (by simp [Value.oneCell']) (by unfold maxLen; omega) (by omega) (by simp; omega) ?_; intro gb cp wa hown hgrow hat hlt)
               go_roundw
               case rel =>
                have hdg := HDG.out; have hrn := HRN.out; have hby := HBY.out; have hr2 := hr'H.out; have B3 : Below w.heap.size w wa := Below.trans (l4.alloc l4s _) (own_grow l1a.out (by simp; omega) hgrow)
                have R3 : Ro wa g (words q ++ Z2) := (l3.keep ((Below.refl _ _).alloc (Nat.le_refl _) _)).grown hgrow (l1a.out.apart (l3.keep ((Below.refl _ _).alloc (Nat.le_refl _) _))); refine ⟨k + 1, rn, D' ++ [UInt8.ofNat by_], by rfl, by go_num, by omega, ?_, by rw [List.length_append, List.length_singleton]; omega, hid ⟨Ob.of_own HDD.out (by omega) hown, ?_, R3, B3⟩⟩
                · rw [hrn, Nat.div_lt_iff_lt_mul (by decide)]
                  rw [show 9 - k = 9 - (k + 1) + 1 by omega, Nat.pow_succ] at hr2
                  exact hr2
                · rw [l2, show 9 - k = 9 - (k + 1) + 1 by omega, padf_succ, List.reverse_append, List.append_assoc, hrn, hby, hdg]
                  rfl
               case measure => simp [intOf]; omega
             · obtain rfl : k = 9 := by omega
               obtain rfl : r' = 0 := by simpa using hr'
               have hDp : 0 < D'.length := by omega
               have LE := l1.lenV; rw [List.length_append] at LE; have FG : Hid (figs M = figs q ++ (D ++ D').reverse) := hid (by rw [IZ.out.2.2.2.1, tell_more HQ1.out HQ2.out hq0, l2, show (9 : Nat) - 9 = 0 from rfl, padf_zero, figs_0, List.nil_append, List.reverse_append, List.append_assoc])
               have DB : (D ++ D').length ≤ 10 * (words M).length := by
                have h1 := congrArg List.length FG.out; have h2 := figs_words M; rw [List.length_append, List.length_reverse] at h1; omega
               rw [List.length_append] at DB; have NXT : Hid (TellI w g (words M).length M q (D ++ D') _ wr) := hid ⟨Z2, l3, QLE.out, l1, FG.out, l4, by have := IZ.out.2.2.2.2.2; omega⟩
               have LV := IZ.out.2.2.1.lenV; clear l2; go_wp2_with fail
               all_goals
                go_roundw
                case rel => exact ⟨q, D ++ D', by rw [← HLQ.out], NXT⟩
                case measure =>
                 show 10 * (words M).length + 1 - lenV _ < 10 * (words M).length + 1 - lenV _
                 rw [LE, LV]; omega
        · obtain ⟨i1, i2, i3, i4, i5, i6, i7⟩ := id hI.out; have hx : (words n)[j]? = some (words n)[j] := List.getElem?_eq_getElem (by omega)
          obtain ⟨x, hxx⟩ : ∃ x, x = (words n)[j] := ⟨_, rfl⟩; rw [← hxx] at hx; have hxB := (words_ok n).get hx; have c0 := i5.cell (i := j) (x := x) (by rw [List.getElem?_append_left (by rw [List.length_take]; omega), List.getElem?_take_of_lt (by omega)]; exact hx)
          have f0 := i5.free j; have hgw := i5.lt; haveI : Has wr g := ⟨hgw⟩; obtain ⟨t, ht⟩ : ∃ t, t = r * 4294967296 + x := ⟨_, rfl⟩; obtain ⟨qd, hqd⟩ : ∃ qd, qd = t / 1000000000 := ⟨_, rfl⟩; obtain ⟨r2, hr2⟩ : ∃ r2, r2 = t % 1000000000 := ⟨_, rfl⟩; have hqB : qd < 4294967296 := by omega
          have hrB : r2 < 1000000000 := by omega
          have o1 := or64 (r * 4294967296) x (by omega) (by omega)
          rw [or_high x r hxB, ← ht, Int.natCast_mul] at o1; have o1 : bits BinOp.or IntKind.u64 ((r : Int) * 4294967296) (x : Int) = (t : Int) := o1; have e1 : (t : Int) / 1000000000 = (qd : Int) := by omega
          have e2 : (t : Int) % 1000000000 = (r2 : Int) := by omega
          have tB : t < 4294967296000000000 := by omega
          have hjc : j < (words M).length := by omega
          have hr9 : r < 1000000000 := i3; have hjl : (j : Int) < ((words n).length : Int) := by omega
          have NX : Hid (DivI w g n Z D u7 j r2 (qd :: Q) (wr.setCell ⟨g, j, none⟩ (.int .u32 qd))) := hid (by
           refine ⟨by simp; omega, Wok.cons hqB i2, hrB, ?_, ?_, ?_, ?_⟩
           · rw [val_drop hx, i4, val, hqd, hr2, ht]; have := Nat.div_add_mod (r * 4294967296 + x) 1000000000; omega
           · have h1 := i5.set j qd; have h2 : (words n).take (j + 1) = (words n).take j ++ [x] := by rw [List.take_add_one, hx]; rfl
             have h3 : ((words n).take j).length = j := by rw [List.length_take]; omega
             rw [h2, List.append_assoc, List.singleton_append] at h1; have h4 := set_row ((words n).take j) (Q ++ Z) x qd; rw [h3] at h4; rw [h4, List.append_assoc] at h1; exact h1
           · exact i6.keep ((Keeps.refl wr.heap.size [g] wr).set (Or.inl (by simp)) _ _) (Nat.le_refl _) (i6.apart i5)
           · exact ((Keeps.of_below (S := []) i7).set (Or.inr hgB) _ _).below)
          rw [show ((j + 1 : Nat) : Int) - 1 = (j : Int) by omega] at *
          clear hx hxx i1 i2 i3 i4 i5 i6 i7 ht hqd hr2 hI; go_wp2_with fail
          go_roundw
          case rel => exact ⟨j, r2, _, (by first | rfl | exact congrArg (Value.int .u64) e2), by go_num, by omega, NX⟩
          case measure => simp [intOf]
end Go.Proofs.YthjeejnggpjnjaaGreatDoor
