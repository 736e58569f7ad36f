/- HouseNames returns true: the given card. Conditions: none beyond the statement's own. -/
import Derived.Test.YtmjpfoninpbgiaaGreatDoorD11
import Derived.RangeFuncFrom
import Derived.RangeFuncLeaves
import Derived.RangeFuncMany
import Derived.RangeFuncNested
import Derived.Test.YtmjpfoninpbgiaaGreatDoorRows
import Derived.ProofKit
import Derived.ChangeSame
import Derived.ChangeVars
import Derived.JoinedOf
import Derived.RowKit
import Derived.RowKitTokens
import Derived.LaidLaws
import Derived.LaidHandle
import Derived.Stop.Joined
import Derived.Stop.LaidErr
import Derived.Lay
import Derived.Lib.LaidTab
import Derived.Test.YtmjpfoninpbgiaaGreatDoorTie
import Derived.Test.YtmjpfoninpbgiaaGreatDoorCards
import Derived.SevenTiedAt
import Derived.OpenShut
import Derived.Below
import Derived.ChangeMaps5
import Derived.Carry
import Derived.Deep.DeepHandedRow
import Derived.ReadAgain
import Derived.Deep.Slices
import Derived.RowKit3
import Derived.ChangeSlices
import Derived.Lib.LaidU8
set_option linter.unusedSimpArgs false
set_option linter.unusedVariables false
namespace Go.Proofs.YtmjpfoninpbgiaaGreatDoor
section
open Go.RowKit
open Go.Maps Go.ChangeMaps Go.Shelf
theorem mc_len (z : Array Value) (n : Nat) : (madeCells z n).toList.length = n := by rw [Array.length_toList]; exact size_madeCells z n
theorem mc_one (z : Array Value) (h0 : 0 < z.size) (hz : ∀ i, i < z.size → (z[i]!).oneCell' = true) (n : Nat) : ∀ u ∈ (madeCells z n).toList, u.oneCell' = true := by
  intro u hu
  unfold madeCells at hu
  rw [Array.toList_map, List.mem_map] at hu
  obtain ⟨i, -, rfl⟩ := hu
  exact hz _ (Nat.mod_lt _ h0)
theorem z4_one : ∀ i, i < (#[.int .u8 0, .complex .f64 0 0, .complex .f64 0 0, .float .f64 0] : Array Value).size → ((#[.int .u8 0, .complex .f64 0 0, .complex .f64 0 0, .float .f64 0] : Array Value)[i]!).oneCell' = true
  | 0, _ => rfl
  | 1, _ => rfl
  | 2, _ => rfl
  | 3, _ => rfl
  | k + 4, h => absurd h (by simp)
theorem bk_of_own {w : World} {g n : Nat} {L : List Value} (h : w.ownsRow 0 38 4 (.slice (some ⟨g, 0, none⟩) n n) n L) : Bk w g L 38 := by
  obtain ⟨hl, hh⟩ := h
  rcases hh with ⟨hh, -⟩ | ⟨g2, cap, cur, hh, hb, hg, hle, hm, hs, ht⟩
  · cases hh
  simp only [Value.slice.injEq, Option.some.injEq, Addr.mk.injEq, and_true, true_and] at hh
  obtain ⟨rfl, rfl⟩ := hh
  rw [List.take_of_length_le (by simp [hs])] at ht
  unfold Bk
  rw [← ht]
  simpa using hg
theorem makeN (W : World) (n : Nat) (hn : n ≤ 1000) : ∃ wm L, (Instr.makeSlice 27 (.int .i64 (n : Int)) (.int .i64 (n : Int))).run Tryz.prog W = .ok (.slice (some ⟨W.heap.size, 0, none⟩) n n) wm ∧ Below W.heap.size W wm ∧ Bk wm W.heap.size L 38 ∧ L.length = n * 4 ∧ ∀ u ∈ L, u.oneCell' = true := by
  obtain ⟨ti, hti, htz, hts, htb⟩ := info_parts info38z
  obtain ⟨wm, hrm, hom, hgm⟩ := run_make_full (P := Tryz.prog) W 0 27 38 ti _ 4 und27z hti htz hts .i64 .i64 n (by rw [htb]; omega) (by unfold maxLen; omega) (Nat.zero_le _)
  refine ⟨wm, _, hrm, (Below.refl _ W).grown hgm (Nat.le_refl _) (fun k e => by cases e), bk_of_own hom, mc_len _ _, ?_⟩
  exact mc_one _ (by show 0 < (#[.int .u8 0, .complex .f64 0 0, .complex .f64 0 0, .float .f64 0] : Array Value).size; decide) z4_one _
theorem make257 (W : World) : ∃ wm L, (Instr.makeSlice 27 (.int .i64 257) (.int .i64 257)).run Tryz.prog W = .ok (.slice (some ⟨W.heap.size, 0, none⟩) 257 257) wm ∧ Below W.heap.size W wm ∧ Bk wm W.heap.size L 38 ∧ L.length = 257 * 4 ∧ ∀ u ∈ L, u.oneCell' = true := makeN W 257 (by decide)
theorem okS10 : OkS (4607182418800017408, 0) := ⟨⟨by decide, by decide⟩, by kernel_rfl, by kernel_rfl⟩
def wingN : ByteArray := ⟨#[119, 105, 110, 103]⟩
def F1 (q : List UInt8) : Option (Nat × Nat) := if q = (⟨#[119, 105, 110, 103]⟩ : ByteArray).data.toList then some (4607182418800017408, 0) else (fun _ => none) q
theorem F1_wing : F1 (⟨#[119, 105, 110, 103]⟩ : ByteArray).data.toList = some (4607182418800017408, 0) := if_pos rfl
theorem F1_some : (F1 (⟨#[119, 105, 110, 103]⟩ : ByteArray).data.toList).isSome = true := by
  rw [F1_wing]
  rfl
/-- The names of the sixty-four. -/
def nkB (a b : Nat) : ByteArray := (⟨#[110]⟩ ++ Utf8.encode (97 + (a : Int))) ++ Utf8.encode (97 + (b : Int))
def nkL (i : Nat) : List UInt8 := [110, UInt8.ofNat (97 + i / 26), UInt8.ofNat (97 + i % 26)]
def moreL : List UInt8 := (⟨#[109, 111, 114, 101]⟩ : ByteArray).data.toList
theorem enc26 (n : Nat) (h : n < 26) : Utf8.encode (97 + (n : Int)) = ⟨#[UInt8.ofNat (97 + n)]⟩ := by
  have H : ∀ k : Fin 26, Utf8.encode (97 + (k.1 : Int)) = ⟨#[UInt8.ofNat (97 + k.1)]⟩ := by decide +kernel
  exact H ⟨n, h⟩
theorem nkB_list {i : Nat} (hi : i < 64) : (nkB (i / 26) (i % 26)).data.toList = nkL i := by
  unfold nkB
  rw [enc26 _ (by omega), enc26 _ (by omega)]
  rfl
theorem nkB_size {i : Nat} (hi : i < 64) : (nkB (i / 26) (i % 26)).size = 3 := bytes_len _ _ (nkB_list hi)
theorem nkB_fit {i : Nat} (hi : i < 64) : fitL (nkB (i / 26) (i % 26)).data.toList = true := by
  rw [nkB_list hi]
  have H : ∀ k : Fin 64, fitL (nkL k.1) = true := by decide +kernel
  exact H ⟨i, hi⟩
theorem nkL_inj {i j : Nat} (hi : i < 64) (hj : j < 64) (h : nkL i = nkL j) : i = j := by
  have H : ∀ (k l : Fin 64), nkL k.1 = nkL l.1 → k.1 = l.1 := by decide +kernel
  exact H ⟨i, hi⟩ ⟨j, hj⟩ h
theorem nkL_more {i : Nat} (hi : i < 64) : moreL ≠ nkL i := by
  have H : ∀ (k : Fin 64), moreL ≠ nkL k.1 := by decide +kernel
  exact H ⟨i, hi⟩
structure Nk (k : Nat) (K : List UInt8 → Bool) : Prop where
  on : ∀ j, j < 64 → K (nkL j) = decide (j < k)
  more : K moreL = false
theorem Nk.put {k : Nat} {K : List UInt8 → Bool} (h : Nk k K) (hk : k < 64) : Nk (k + 1) (fun q => if q = nkL k then true else K q) := by
  refine ⟨fun j hj => ?_, ?_⟩
  · show (if nkL j = nkL k then true else K (nkL j)) = _
    by_cases e : nkL j = nkL k
    · have := nkL_inj hj hk e
      rw [if_pos e]
      exact (decide_eq_true (by omega)).symm
    · have : j ≠ k := fun h => e (by rw [h])
      rw [if_neg e, h.on j hj]
      by_cases hjk : j < k
      · rw [decide_eq_true hjk, decide_eq_true (by omega)]
      · rw [decide_eq_false hjk, decide_eq_false (by omega)]
  · show (if moreL = nkL k then true else K moreL) = _
    rw [if_neg (nkL_more hk), h.more]
/-- What the house has behind the first names: none. -/
theorem none0 (q : List UInt8) : (fun q => if q = (⟨#[119, 105, 110, 103]⟩ : ByteArray).data.toList then false else (fun q => if q = (⟨#[119, 105, 110, 103]⟩ : ByteArray).data.toList then true else (F1 q).isSome) q) q = false := by
  by_cases e : q = (⟨#[119, 105, 110, 103]⟩ : ByteArray).data.toList
  · exact if_pos e
  · refine (if_neg e).trans ((if_neg e).trans ?_)
    unfold F1
    rw [if_neg e]
    rfl
theorem Nk.zero {K : List UInt8 → Bool} (h : ∀ q, K q = false) : Nk 0 K := ⟨fun j _ => by rw [h]; rfl, h _⟩
theorem Mk.size_put {w : World} {m n : Nat} {D : DataW Unit} {K : List UInt8 → Bool} (h : Mk w m n D K) (k : List UInt8) (v : DataW Unit) : Maps.size (D.put (.string k) v) = Maps.size D + if K k = true then 0 else 1 := by
  rw [Maps.size_put (h.own.tidy keyed9), h.has]
  split <;> rfl
theorem Mk.size_del {w : World} {m n : Nat} {D : DataW Unit} {K : List UInt8 → Bool} (h : Mk w m n D K) (k : List UInt8) : Maps.size (D.del (.string k)) + (if K k = true then 1 else 0) = Maps.size D := by
  have := Maps.size_del (h.own.tidy keyed9) (k := .string k)
  rwa [h.has] at this
theorem size_three {w w1 w2 : World} {m n n1 n2 : Nat} {K K1 K2 : List UInt8 → Bool} {k : List UInt8} {v1 v2 : DataW Unit} (h : Mk w m n (.map []) K) (h1 : Mk w1 m n1 ((DataW.map [] : DataW Unit).put (.string k) v1) K1) (h2 : Mk w2 m n2 (((DataW.map [] : DataW Unit).put (.string k) v1).put (.string k) v2) K2)
    (a : K k = false) (b : K1 k = true) (c : K2 k = true) : Maps.size ((((DataW.map [] : DataW Unit).put (.string k) v1).put (.string k) v2).del (.string k)) = 0 := by
  have s1 := h.size_put k v1
  have s2 := h1.size_put k v2
  have s3 := h2.size_del k
  rw [a] at s1
  rw [b] at s2
  rw [c] at s3
  simp only [Bool.false_eq_true, if_false, if_true] at s1 s2 s3
  have s0 : Maps.size (.map [] : DataW Unit) = 0 := rfl
  omega
/-- The house after so many of the sixty-four. -/
structure NI (W0 : World) (h m i : Nat) (wx : World) : Prop where
  house : Bk wx h [.bool true, .int .i32 0, .int .u32 0, .map (some m)] 51
  keep : Keeps W0.heap.size [h, m] W0 wx
  mp : ∃ D K, Mk wx m (1 + 1 + i) D K ∧ Nk i K ∧ Maps.size D = i
end
section
open Go.RowKit
open Go.Maps Go.ChangeMaps Go.Shelf
theorem all_none {l0 : Nat} (w : World) : SeqStopsK Fence.wide l0 Tryz.prog 36 #[] (fun x : Empty => nomatch x) (Below w.heap.size) (fun xs => xs = []) (fun _ => False) 0 w :=
  fun l J Jx W _ _ _ _ h0 => callsIn_wide.2 (hAll1.mono fun e w' ⟨he, hw⟩ => ⟨⟨_, he⟩, .inl ⟨[], rfl, by rw [hw]; exact h0⟩⟩)
set_option synthInstance.maxHeartbeats 2000000 in
set_option synthInstance.maxSize 100000 in
set_option maxRecDepth 100000 in
set_option maxHeartbeats 16000000 in
theorem hHouseNames {w : World} (V : Vars w) (h10 : 10 ≤ w.heap.size) (hg : w.cell? ⟨0, 0, none⟩ = some (.iface 179 (.agg #[.pointer (some ⟨10, 62, none⟩)]))) : Calls Tryz.prog 4 #[] w fun e w' => e = .returned (.bool true) ∧ Kp0 w w' := by
  have VW := hid (fun (W : World) (hg : Below w.heap.size w W) => V.keep (Keeps.of_below (S := []) hg) h10 (by simp))
  have H10 := hid h10
  haveI hok := okS10
  haveI hH0 : Has w 0 := ⟨by omega⟩
  have HG := hid hg
  clear V h10
  refine (callsIn_wide (n := 9)).1 (callsIn_of_wp_marks (F := Fence.wide) (n := 9) Tryz.func4 rfl trivial (wpIn_wide.2 ?_) rfl)
  simp only [Tryz.ntmps4, List.size_toArray, List.length_cons, List.length_nil, Nat.reduceAdd, Nat.reduceSub, Array.replicate_succ, Array.replicate_zero, List.push_toArray, List.append_toArray, List.nil_append, List.cons_append]
  go_wp2_with (first | (go_at_call 6; (with_reducible refine Calls.mono (hNew) ?_); rintro e wn ⟨rfl, rfl⟩) | (go_at_call 9; (with_reducible refine Calls.mono (hGetNil) ?_); rintro e w1 ⟨rfl, _⟩) | (go_at_call 11; (with_reducible refine Calls.mono (hSavePl (h := w.heap.size + 1 + 1)) ?_); rintro e w2 ⟨rfl, _⟩) | (go_at_call 12; (with_reducible refine Calls.mono (hAllPl (h := w.heap.size + 1 + 1)) ?_); rintro e w3 ⟨rfl, _⟩))
  refine wpIn_wide.1 (wpIn_rangeFunc_ownF (F := Fence.wide) (n := 9) (α := Empty) (encs := fun x => nomatch x) (Kp := Below w3.heap.size) (S := fun xs => xs = []) (Sp := fun _ => False) (N := 0) (w0 := w3) rfl (by decide) (gf := 36) (lb := #[]) rfl trivial (enters_of Tryz.func36 (by kernel_rfl) rfl) (all_none w3) belowK_t (belowK_b (Nat.le_refl _)) (Below.refl _ _) (fun x => nomatch x)
    (fun _ W => Below w3.heap.size w3 W) (fun _ _ _ => False) (ownFrom_below (Nat.le_refl _) (Nat.le_refl _)) (fun _ _ _ _ _ hs _ _ => hs) (Below.refl _ _) (fun x => nomatch x) (fun _ x => nomatch x) (fun _ _ x => nomatch x) ?done (fun _ _ _ _ _ _ h _ => h.elim))
  case done =>
    rintro D xs w4 hD rfl hB hK
    haveI hk4 : Kp0 w3 w4 := ⟨hB⟩
    clear hB
    have HDB := hid hD
    have HKB := hid hK
    clear hD hK
    go_wp2_with (first | (go_at_call 14; (with_reducible refine Calls.mono hLoadNil ?_); rintro e w5 ⟨rfl, rfl⟩; have hg5 : (w4.alloc (.cells #[.int .i64 1, .int .i64 0] 58)).cell? ⟨0, 0, none⟩ = some (.iface 179 (.agg #[.pointer (some ⟨10, 62, none⟩)])) := by simp [go_sem, hg]) | (go_at_call 13; (with_reducible refine Calls.mono (hFaulty (e := w4.heap.size) hg5 (by decide)) ?_); rintro e w6 ⟨rfl, _⟩))
    have q58 : ∀ W : World, (binOp .eql 58 (.agg #[.int .i64 1, .int .i64 0]) (.agg #[.int .i64 1, .int .i64 0])).run Tryz.prog W = .ok (.bool true) W := fun W => by kernel_rfl
    go_wp2_with (first | (go_at_call 8; (with_reducible refine Calls.mono (hPutPl (h := w.heap.size + 1 + 1) (nm := ⟨#[97]⟩)) ?_); rintro e w7 ⟨rfl, _⟩) | (go_at_call 15; (with_reducible refine Calls.mono (hDropNil (nm := ⟨#[]⟩)) ?_); rintro e w8 ⟨rfl, _⟩) | (go_at_call 10; (with_reducible refine Calls.mono (hNamesNil) ?_); rintro e w9 ⟨rfl, _⟩))
    clear q58
    go_wp2_with (first | (go_at_call 7; (with_reducible refine Calls.mono (lwStream) ?_); rintro e ws ⟨g1, rfl, _, _, _⟩) | (go_at_call 8; (with_reducible refine Calls.mono (hPut (h := w.heap.size + 1) (m := w.heap.size) (s := (4607182418800017408, 0)) (nm := ⟨#[119, 105, 110, 103]⟩) (by decide +kernel) (by decide +kernel) (((mp_made w).below ((Below.refl _ _).alloc (Nat.le_refl _) _)).below (Gr.out (v := ((w.alloc (.map #[] 0)).alloc (.cells #[.bool true, .int .i32 0, .int .u32 0, .map (some w.heap.size)] 51))) (W := ws))) (by decide) (.inr (by decide))) ?_); rintro e wp ⟨rfl, b1, hp1, hp2, hp3⟩; have HP : Hid (Mp wp w.heap.size 1 ((DataW.map [] : DataW Unit).put (.string wingB.data.toList) (.lit (.int .i64 (b1 : Nat)))) F1) := hid hp2; clear hp2) | (go_at_call 8; (with_reducible refine Calls.mono (hPutBad (h := w.heap.size + 1) (m := w.heap.size) (nm := ⟨#[87, 105, 110, 103]⟩) (by decide +kernel) (by decide +kernel)) ?_); rintro e wb0 ⟨rfl, _⟩) | (go_at_call 8; (with_reducible refine Calls.mono (hPutBad (h := w.heap.size + 1) (m := w.heap.size) (nm := ⟨#[]⟩) (by decide +kernel) (by decide +kernel)) ?_); rintro e wb1 ⟨rfl, _⟩) | (go_at_call 8; (with_reducible refine Calls.mono (hPutBad (h := w.heap.size + 1) (m := w.heap.size) (nm := ⟨#[49, 97]⟩) (by decide +kernel) (by decide +kernel)) ?_); rintro e wb2 ⟨rfl, _⟩))
    obtain ⟨wm, L, hrm, hkm, hbm, hl1, hl2⟩ := make257 wb2
    have HL1 : Hid (L.length = 257 * 4) := hid hl1
    have HL2 : Hid (∀ u ∈ L, u.oneCell' = true) := hid hl2
    haveI ibm : BkC wm wb2.heap.size L 38 := ⟨hbm⟩
    haveI ikm : Kp0 wb2 wm := ⟨hkm⟩
    clear hkm hbm hl1 hl2
    have HPK := hid (HP.out.mk'.below (Gr.out (v := wp) (W := wm)))
    rw [hrm]
    go_wp2_with (go_at_call 8; (with_reducible refine Calls.mono (hPutBE (h := w.heap.size + 1) (nm := ⟨#[97]⟩) (L := L) (by decide +kernel) (by decide +kernel) (HPK.out.below Gr.out) (by decide) HL1 HL2) ?_); rintro e wc ⟨rfl, _⟩)
    have HP2 := hid (HP.out.below (Gr.out (v := wp) (W := wc)))
    clear hrm HPK HL1 HL2
    go_wp2_with (first | (go_at_call 16; (with_reducible refine Calls.mono (hJoin (h := w.heap.size + 1) (m := w.heap.size) (nm := (⟨#[119, 105, 110, 103]⟩ : ByteArray)) (s2 := (⟨#[119, 105, 110, 103]⟩ : ByteArray)) (s3 := (⟨#[119, 105, 110, 103]⟩ : ByteArray)) (by decide +kernel) (by decide +kernel) (by decide +kernel) (by decide +kernel) (by decide +kernel) (by decide +kernel) HP2.out (by decide) F1_some F1_wing F1_wing) ?_); rintro e wj ⟨rfl, b2, hj1, hj2, hj3⟩; have HJ := hid hj2; clear hj2) | (go_at_call 16; (with_reducible refine Calls.mono (hJoinBad (h := w.heap.size + 1) (m := w.heap.size) (nm := ⟨#[67]⟩) (s2 := ⟨#[120]⟩) (s3 := ⟨#[121]⟩) (by decide +kernel) (by decide +kernel)) ?_); rintro e wk ⟨rfl, _⟩) | (go_at_call 17; (with_reducible refine Calls.mono (hConjG (h := w.heap.size + 1) (m := w.heap.size) (nm := ⟨#[99]⟩) (s2 := ⟨#[120]⟩) (by decide +kernel) (by decide +kernel) (by decide +kernel) (by decide +kernel) (HJ.out.below Gr.out) (by decide +kernel)) ?_); rintro e wq ⟨rfl, _⟩) | (go_at_call 15; (with_reducible refine Calls.mono (hDrop0 (h := w.heap.size + 1) (m := w.heap.size) (nm := (⟨#[119, 105, 110, 103]⟩ : ByteArray)) (hid (by decide +kernel)) (hid (by decide +kernel)) (HJ.out.below Gr.out) (hid (by decide +kernel))) ?_); rintro e wd ⟨rfl, hd1, hd2, hd3⟩; have HD := hid hd2; clear hd2) | (go_at_call 15; go_loud (with_reducible refine Calls.mono (hDrop9 (h := w.heap.size + 1) (m := w.heap.size) (nm := (⟨#[119, 105, 110, 103]⟩ : ByteArray)) (hid (by decide +kernel)) (hid (by decide +kernel)) (HD.out.below Gr.out) (hid (by decide +kernel))) ?_); rintro e wn9 ⟨rfl, _⟩))
    have HSZ := hid (size_three (mp_made w).mk' HP.out.mk' HJ.out rfl F1_some rfl)
    have HD2 := hid (HD.out.below (Gr.out (v := wd) (W := wn9)))
    clear HP2 HP HJ HD
    go_wp2_with (first | (go_at_call 14; (with_reducible refine Calls.mono (hLoadE (h := w.heap.size + 1) (m := w.heap.size)) ?_); rintro e we ⟨b3, rfl, hE1, hE2, hE3⟩; have hgE : we.cell? ⟨0, 0, none⟩ = some (.iface 179 (.agg #[.pointer (some ⟨10, 62, none⟩)])) := (World.cell?_of_block (w := w) ((Gr.out (v := w) (W := we)).block 0 hH0.lt)).trans HG.out) | (go_at_call 13; (with_reducible refine Calls.mono (hFaulty (e := b3) hgE (by decide)) ?_); rintro e wf ⟨rfl, _⟩) | (go_at_call 14; go_loud (with_reducible refine Calls.mono (hLoadH (h := w.heap.size + 1) (m := w.heap.size)) ?_); rintro e we2 ⟨b4, rfl, hE4, hE5, hE6⟩; have hgH : we2.cell? ⟨0, 0, none⟩ = some (.iface 179 (.agg #[.pointer (some ⟨10, 62, none⟩)])) := (World.cell?_of_block (w := w) ((Gr.out (v := w) (W := we2)).block 0 hH0.lt)).trans HG.out) | (go_at_call 13; go_loud (with_reducible refine Calls.mono (hFaulty (e := b4) hgH (by decide)) ?_); rintro e wf2 ⟨rfl, _⟩))
    have HM1 := hid (HD2.out.below (Gr.out (v := wn9) (W := wf2.alloc (.cells #[.int .i64 290, .int .i64 12] 58))))
    obtain ⟨W0, hW0⟩ : ∃ W0, W0 = wf2.alloc (.cells #[.int .i64 290, .int .i64 12] 58) := ⟨_, rfl⟩
    haveI c14 : BkC W0 wf.heap.size [.int .i64 290, .int .i64 0] 58 := by rw [hW0]; infer_instance
    haveI c16 : BkC W0 wf2.heap.size [.int .i64 290, .int .i64 12] 58 := by rw [hW0]; infer_instance
    haveI cH : BkC W0 (w.heap.size + 1) [.bool true, .int .i32 0, .int .u32 0, .map (some w.heap.size)] 51 := by rw [hW0]; infer_instance
    haveI g0 : Gr w W0 := by rw [hW0]; infer_instance
    haveI gs0 : GS w4 [w.heap.size + 1, w.heap.size] W0 := by rw [hW0]; infer_instance
    rw [← hW0] at HM1 ⊢
    have hD3 : w.heap.size + 1 < w3.heap.size := (inferInstance : Has w3 (w.heap.size + 1)).lt
    have HD3 := hid hD3
    clear hD3 HD2 hgE hgH hW0
    go_loopw [18] (fun s18 wx => ∃ i : Nat, s18 = .int .i64 i ∧ i ≤ 64 ∧ NI W0 (w.heap.size + 1) w.heap.size i wx) (fun s18 _ => 64 - (intOf s18).toNat)
    case atStart => exact ⟨0, rfl, Nat.zero_le _, cH.out, Keeps.refl _ _ _, _, _, HM1.out, Nk.zero none0, HSZ.out⟩
    case round =>
      obtain ⟨i, rfl, hi, hN⟩ := hrel
      obtain ⟨D1, K1, hmp, hnk, hsz⟩ := hN.mp
      haveI ih : BkC wr (w.heap.size + 1) _ 51 := ⟨hN.house⟩
      haveI ik : KpS W0 [w.heap.size + 1, w.heap.size] wr := ⟨hN.keep⟩
      have HMP := hid hmp
      have HNK := hid hnk
      have HS := hid hsz
      clear hmp hnk hsz hN
      by_cases hlt : i < 64
      · have e9 : decide ((i : Int) < 64) = true := decide_eq_true (by omega)
        obtain ⟨a, ha⟩ : ∃ a, a = i / 26 := ⟨_, rfl⟩
        obtain ⟨b, hb⟩ : ∃ b, b = i % 26 := ⟨_, rfl⟩
        have ha3 : a < 26 := by omega
        have hb26 : b < 26 := by omega
        have hda : ((i : Int).tdiv 26) = (a : Int) := by rw [ha, Int.tdiv_eq_ediv_of_nonneg (by omega)]; omega
        have hmb : ((i : Int).tmod 26) = (b : Int) := by rw [hb, Int.tmod_eq_emod_of_nonneg (by omega)]; omega
        have hwa : IntKind.i32.wrap (97 + (a : Int)) = 97 + (a : Int) := by rw [IntKind.wrap_i32]; omega
        have hwb : IntKind.i32.wrap (97 + (b : Int)) = 97 + (b : Int) := by rw [IntKind.wrap_i32]; omega
        have hsa : (Utf8.encode (97 + (a : Int))).size = 1 := by rw [enc26 a ha3]; rfl
        have hsb : (Utf8.encode (97 + (b : Int))).size = 1 := by rw [enc26 b hb26]; rfl
        have HNM : Hid (({ data := #[110] } : ByteArray) ++ Utf8.encode (97 + (a : Int)) ++ Utf8.encode (97 + (b : Int)) = nkB a b) := hid rfl
        have HNL : Hid ((nkB a b).data.toList = nkL i) := hid (by rw [ha, hb]; exact nkB_list hlt)
        have HNS : Hid ((nkB a b).size ≤ 70000) := hid (by rw [ha, hb, nkB_size hlt]; decide)
        have HNF : Hid (fitL (nkB a b).data.toList = true) := hid (by rw [ha, hb]; exact nkB_fit hlt)
        have HT : Hid (1 + 1 + i < 1000000) := hid (by omega)
        have hroom : Hid (K1 (nkB a b).data.toList = true ∨ Maps.size D1 < 64) := hid (.inr (by rw [HS.out]; exact hlt))
        clear ha hb
        go_wp2_with (go_at_call 8; rw [HNM.out]; go_loud (with_reducible refine Calls.mono (hPutNP (h := w.heap.size + 1) (m := w.heap.size) (nm := nkB a b) HNS.out HNF.out (HMP.out.below Gr.out) HT.out hroom.out) ?_); rintro e wz ⟨rfl, b5, hp1, hp2, hp3⟩)
        case roundEnd =>
          refine ⟨⟨i + 1, rfl, by omega, hp1.out, (inferInstance : GS W0 [w.heap.size + 1, w.heap.size] wz).out, _, _, hp2, ?_, ?_⟩, by simp [intOf]; omega⟩
          · rw [HNL.out]; exact HNK.out.put hlt
          · rw [HMP.out.size_put, HNL.out, HNK.out.on i hlt, HS.out]; simp
      · have e9 : decide ((i : Int) < 64) = false := decide_eq_false (by omega)
        have hi64 : i = 64 := by omega
        subst hi64
        have q58a : ∀ W : World, (binOp .eql 58 (.agg #[.int .i64 290, .int .i64 0]) (.agg #[.int .i64 290, .int .i64 0])).run Tryz.prog W = .ok (.bool true) W := fun W => by kernel_rfl
        have q58b : ∀ W : World, (binOp .eql 58 (.agg #[.int .i64 290, .int .i64 12]) (.agg #[.int .i64 290, .int .i64 12])).run Tryz.prog W = .ok (.bool true) W := fun W => by kernel_rfl
        haveI k14 : BkC wr wf.heap.size [.int .i64 290, .int .i64 0] 58 := inferInstance
        haveI k16 : BkC wr wf2.heap.size [.int .i64 290, .int .i64 12] 58 := inferInstance
        have d0 := k14.out.cell (i := 0) rfl
        have d1 := k14.out.cell (i := 1) rfl
        have d2 := k16.out.cell (i := 0) rfl
        have d3 := k16.out.cell (i := 1) rfl
        have HN0 : Hid (1 + 1 + 64 < 1000000) := hid (by decide)
        have HFU : Hid (64 ≤ Maps.size D1) := hid (by rw [HS.out]; exact Nat.le_refl _)
        have HNB : Hid (K1 (⟨#[110, 97, 98]⟩ : ByteArray).data.toList = true) := hid (HNK.out.on 1 (by decide))
        have HMO : Hid (K1 (⟨#[109, 111, 114, 101]⟩ : ByteArray).data.toList = false) := hid HNK.out.more
        go_wp2_with (first | (go_at_call 7; (with_reducible refine Calls.mono (lwStream) ?_); rintro e ws ⟨g1, rfl, _, _, _⟩) | (go_at_call 8; (with_reducible refine Calls.mono (hPutNF (h := w.heap.size + 1) (m := w.heap.size) (nm := ⟨#[109, 111, 114, 101]⟩) (by decide +kernel) (by decide +kernel) (HMP.out.below Gr.out) HN0.out HMO.out HFU.out) ?_); rintro e wy ⟨rfl, _⟩) | (go_at_call 8; (with_reducible refine Calls.mono (hPutSP (h := w.heap.size + 1) (m := w.heap.size) (s := (4607182418800017408, 0)) (nm := ⟨#[110, 97, 98]⟩) (by decide +kernel) (by decide +kernel) (HMP.out.below Gr.out) HN0.out (.inl HNB.out)) ?_); rintro e wz ⟨rfl, b6, hz1, hz2, hz3⟩) | (go_at_call 5; (with_reducible refine Calls.mono (hAlive (VW.out _ Gr.out) (Nat.le_trans H10.out (Gr.out (v := w)).size)) ?_); rintro e wl ⟨rfl, _⟩))
        have hK' : wl.heap[D]? = some (.deferred (some [])) := by
          have hk := (inferInstance : GS w4 [w.heap.size + 1, w.heap.size] wl).out.block D (lt_of_block HKB.out) (by
            have h1 := HDB.out
            have h2 := HD3.out
            simp only [List.mem_cons, List.not_mem_nil, or_false, not_or]
            omega)
          exact hk.trans HKB.out
        haveI gl : Gr w wl := inferInstance
        have GL := gl.out
        refine ⟨by simp, .inl ⟨_, _, rfl, run_takeDeferred hK', ?_⟩⟩
        refine ⟨_, results_tmp rfl _ _ _, rfl, ⟨GL.grown (grownBy_putObj' _ D _) GL.size (fun k e => ?_)⟩⟩
        obtain rfl := Option.some.inj e
        have h1 := HDB.out
        have h2 := HD3.out
        omega
end
section
open Go.RowKit
open Go.ChangeShapes Go.WideShapes Go.RowKit Go.Stop
theorem own : ownKnob Tryz.prog.godebug = none := by kernel_rfl
theorem g_et : Tryz.prog.globalNamed "errors.errorType" = some 0 := by kernel_rfl
theorem g_es : Tryz.prog.globalNamed "strconv.ErrSyntax" = some 4 := by kernel_rfl
theorem g_er : Tryz.prog.globalNamed "strconv.ErrRange" = some 5 := by kernel_rfl
theorem g_db : Tryz.prog.globalNamed "math/bits.deBruijn64tab" = some 7 := by kernel_rfl
theorem t_es : (Tryz.prog.globals[4]?).map (·.type) = some 62 := by kernel_rfl
theorem t_er : (Tryz.prog.globals[5]?).map (·.type) = some 62 := by kernel_rfl
theorem t_db : (Tryz.prog.globals[7]?).map (·.type) = some 306 := by kernel_rfl
theorem t_pw : (Tryz.prog.globals[2]?).map (·.type) = some 255 := by kernel_rfl
theorem c_es : Tryz.prog.cellsOf 315 = 1 := by kernel_rfl
theorem c_9 : Tryz.prog.cellsOf 9 = 1 := by kernel_rfl
theorem c_5 : Tryz.prog.cellsOf 5 = 1 := by kernel_rfl
theorem c_u64 : Tryz.prog.cellsOf 113 = 1 := by kernel_rfl
theorem c_t64 : Tryz.prog.cellsOf 306 = 64 := by kernel_rfl
theorem c_t20 : Tryz.prog.cellsOf 255 = 20 := by kernel_rfl
theorem star : "*" ++ "errors.errorString" = "*errors.errorString" := by decide
theorem rowPE (u : TypeId) (h : Tryz.prog.typeName? 3 u = some "*errors.errorString") : u = 313 :=
  typeName_ptr_named (nm := "errors.errorString") (by rw [star]; kernel_rfl) (by kernel_rfl) (by decide) u (by rw [star]; exact h)
theorem rt : (Tryz.prog.cutTypes.find? (·.1 == "internal/reflectlite.rtype")).map (·.2) = some 179 := by kernel_rfl
theorem oneRow : ((List.range 357).filter fun t => Tryz.prog.rowNamed t [101, 114, 114, 111, 114]) = [62] := by kernel_rfl
theorem tsize : Tryz.prog.types.size = 357 := by kernel_rfl
def z64 : List Int := [0, 1, 56, 2, 57, 49, 28, 3, 61, 58, 42, 50, 38, 29, 17, 4, 62, 47, 59, 36, 45, 43, 51, 22, 53, 39, 33, 30, 24, 18, 12, 5, 63, 55, 48, 27, 60, 41, 37, 16, 46, 35, 44, 21, 52, 32, 23, 11, 54, 26, 40, 15, 34, 20, 31, 10, 25, 14, 19, 9, 13, 8, 7, 6]
/-- What is listed, but for the handle. -/
def plainLaid : List (String × DataW Unit) := [("math/bits.deBruijn32tab", Rows.laid_math_bits_deBruijn32tab), ("math/bits.deBruijn64tab", Rows.laid_math_bits_deBruijn64tab), ("internal/strconv.uint64pow10", Rows.laid_internal_strconv_uint64pow10), ("unicode/utf8.acceptRanges", Rows.laid_unicode_utf8_acceptRanges), ("strconv.ErrRange", Rows.laid_strconv_ErrRange), ("strconv.ErrSyntax", Rows.laid_strconv_ErrSyntax), ("unicode/utf8.first", Rows.laid_unicode_utf8_first)]
def allLaid : List (String × DataW Unit) := [("math/bits.deBruijn32tab", Rows.laid_math_bits_deBruijn32tab), ("math/bits.deBruijn64tab", Rows.laid_math_bits_deBruijn64tab), ("internal/strconv.uint64pow10", Rows.laid_internal_strconv_uint64pow10), ("unicode/utf8.acceptRanges", Rows.laid_unicode_utf8_acceptRanges), ("errors.errorType", Rows.laid_errors_errorType), ("strconv.ErrRange", Rows.laid_strconv_ErrRange), ("strconv.ErrSyntax", Rows.laid_strconv_ErrSyntax), ("unicode/utf8.first", Rows.laid_unicode_utf8_first)]
theorem laid_split {W : World} (h : laidMetH Tryz.prog allLaid W) : laidMet Tryz.prog plainLaid W ∧ handlesMet Tryz.prog [("errors.errorType", Rows.laid_errors_errorType)] W := by
  have e1 : (allLaid.filter fun x => x.2.handleName?.isSome) = [("errors.errorType", Rows.laid_errors_errorType)] := by kernel_rfl
  have e2 : (allLaid.filter fun x => x.2.handleName?.isNone) = plainLaid := by kernel_rfl
  unfold laidMetH at h
  rw [e1] at h
  simp only [e2] at h
  exact h
/-- What the statement's condition gives a walk. -/
theorem vars_of_laid {W : World} (h : laidMetH Tryz.prog allLaid W) : Vars W := by
  obtain ⟨hp, -⟩ := laid_split h
  have h1 := hp.tail
  have h2 := h1.tail
  have h3 := h2.tail
  have h4 := h3.tail
  have h5 := h4.tail
  refine ⟨?_, ?_, ?_, ?_⟩
  · obtain ⟨a, s, hv, -⟩ := laid_sentinel h5 g_es t_es Tryz.underlying62 rowPE Tryz.underlying313 Tryz.underlying315 rfl rfl Tryz.underlying9 c_es c_9
    exact ⟨_, _, by simpa using World.var?_cell g_es hv 0⟩
  · obtain ⟨a, s, hv, -⟩ := laid_sentinel h4 g_er t_er Tryz.underlying62 rowPE Tryz.underlying313 Tryz.underlying315 rfl rfl Tryz.underlying9 c_es c_9
    exact ⟨_, _, by simpa using World.var?_cell g_er hv 0⟩
  · have e : Rows.laid_math_bits_deBruijn64tab = Lib.tabData (H := Unit) .u8 z64 := by rfl
    have h1' : laidMet Tryz.prog (("math/bits.deBruijn64tab", Lib.tabData .u8 z64) :: plainLaid.tail.tail) W := by
      rw [← e]; exact h1
    have ht := Lib.tabIs_of_head g_db t_db Tryz.underlying306 Tryz.underlying5 c_5 c_t64 h1'
    exact ht.cell g_db 15 (by decide)
  · have e : Rows.laid_internal_strconv_uint64pow10 = Lib.tabData (H := Unit) .u64 Lib.pow10Tab := by kernel_rfl
    have h2' : laidMet Tryz.prog (("internal/strconv.uint64pow10", Lib.tabData .u64 Lib.pow10Tab) :: plainLaid.tail.tail.tail) W := by
      rw [← e]; exact h2
    exact Lib.tabIs_of_head tab_named t_pw Tryz.underlying255 Tryz.underlying113 c_u64 c_t20 h2'
/-- A world that meets the condition. -/
noncomputable def laidWorld (os : Os) : World :=
  let w0 := World.laidAll Tryz.prog os plainLaid
  { w0 with heap := w0.heap.modify 0 fun
      | .cells _ t frozen => .cells #[.iface 179 (.agg #[.pointer (some ⟨10, 62, none⟩)])] t frozen
      | o => o }
theorem laidWorld_met (os : Os) (args : Array Value) : laidMetH Tryz.prog allLaid ((laidWorld os).forCall (fun _ _ => 0) ⟨#[], args, []⟩).memory :=
  laidMetH_of_parts (laidMet_of_run' 8 (by kernel_rfl) (by kernel_rfl)) (by kernel_rfl)
end
section
open Go.RowKit
open Go.ChangeShapes Go.WideShapes Go.ChangeAt Go.RowKit
theorem g_ar : Tryz.prog.globalNamed "unicode/utf8.acceptRanges" = some 9 := by kernel_rfl
theorem vars_ten {w : World} (h : laidMetH Tryz.prog allLaid w) : 10 ≤ w.heap.size := by
  obtain ⟨hp, -⟩ := laid_split h
  obtain ⟨g, t, cs, fuel, p, -, -, hv, -⟩ := Lib.laidMet.reads hp (n := "unicode/utf8.acceptRanges") (d := Rows.laid_unicode_utf8_acceptRanges) (.tail _ (.tail _ (.tail _ (.head _))))
  rcases Nat.lt_or_ge w.heap.size 10 with h | h
  · exfalso
    simp only [World.var?, g_ar, Option.bind_some] at hv
    rw [Array.getElem?_eq_none (by omega)] at hv
    cases hv
  · exact h
theorem hg_of_laid {W : World} (h : laidMetH Tryz.prog allLaid W) : W.cell? ⟨0, 0, none⟩ = some (.iface 179 (.agg #[.pointer (some ⟨10, 62, none⟩)])) := by
  obtain ⟨-, hh⟩ := laid_split h
  obtain ⟨name, u, ty, e1, e2, e3, e4, e5⟩ := hh _ (List.mem_singleton.2 rfl)
  have en : name = [101, 114, 114, 111, 114] := (Option.some.inj e1).symm
  subst en
  obtain rfl := Option.some.inj (rt.symm.trans e2)
  have hm : ty ∈ (List.range 357).filter fun t => Tryz.prog.rowNamed t [101, 114, 114, 111, 114] := List.mem_filter.2 ⟨List.mem_range.2 (by rw [← tsize]; exact e3), e4⟩
  rw [oneRow] at hm
  obtain rfl := List.mem_singleton.1 hm
  have hth : typeHandle Tryz.prog 62 = .pointer (some ⟨10, 62, none⟩) := by kernel_rfl
  rw [hth] at e5
  simpa using World.var?_cell g_et e5 0
set_option maxRecDepth 100000 in
set_option maxHeartbeats 4000000 in
theorem houseNames_lifted (os : Os) (started : os.Started) (H : Type) (enc : TypeId × Value → H) :
    ReturnsInHanded {} Tryz.checked os 4 .any (fun w args => (Rows.houseNamesSpec.pre enc Tryz.prog Tryz.f4 [] false w args ∧ laidMetH Tryz.prog Rows.houseNamesRow.laid w) ∧ sizedMet enc Tryz.prog Tryz.f4 (OpenSpec.ofChange Rows.houseNamesSpec) false w args)
      (Rows.houseNamesSpec.post enc Tryz.prog Tryz.f4 false true false false) := by
  refine returnsInHanded_of_change_and (C := Tryz.checked) (X := fun w _ => laidMetH Tryz.prog Rows.houseNamesRow.laid w) (fun _ _ _ hh h => h.of_heap hh) own started (by kernel_rfl) Tryz.func4
    (ChangeSpec.witness_at (enc := enc) (C := Tryz.checked) (os := os) (X := fun w _ => laidMetH Tryz.prog Rows.houseNamesRow.laid w) false (laidWorld os) #[] 8 rfl (by kernel_rfl) (by kernel_rfl) (by kernel_rfl) (by kernel_rfl) (by kernel_rfl) (laidWorld_met os _)) ?_
  intro W base args ds gs before hval0 hW _ _ hL _
  have hW' := hW
  obtain ⟨p, q, hA0, hV0, rfl, hfz, hnd⟩ := hW
  have hA : DataW.TrodAll enc Tryz.prog W 0 (fun _ => true) true Tryz.f4.params.toList args.toList ds p := hA0
  have hV : DataW.TrodVars enc Tryz.prog W (fun _ => true) [] gs q := hV0
  rw [Tryz.params4] at hA
  obtain ⟨rfl, rfl, rfl⟩ := trodAll_none hA
  have hVars := vars_of_laid hL
  have h10 : 10 ≤ W.heap.size := vars_ten hL
  obtain ⟨rfl, rfl⟩ := trodVars_none hV
  refine (hHouseNames hVars h10 (hg_of_laid hL)).mono fun e W' ⟨he, hk⟩ => ?_
  subst he
  have hb := hk.out
  have e1 : Rows.houseNamesSpec.fn H ([] ++ []) = { results := [.lit (.bool true)], args := [] } := by simp [Rows.houseNamesSpec]
  have hres : ∀ (b : Nat) (sp : Nat → Bool) (hd : Bool), DataW.TrodAll enc Tryz.prog W' b sp hd Tryz.f4.resultTypes.toList ((Value.bool true).resultList Tryz.f4.resultTypes.size) [.lit (.bool true)] [] := fun _ _ _ => trodAll_mk1 (shut_bool Tryz.underlying4 true)
  refine ⟨_, rfl, _, _, _, [], [], [], hW', ?_, ?_, ?_, World.keptBut_mono (fun p hp => by cases hp) (hb.frame (· ∈ ([] : List MemPlace))), ?_⟩
  · rw [e1]; exact hres _ _ _
  · rw [e1]; exact trodAll_mk0
  · rw [e1]; rfl
  · exact fun h => by cases h
theorem houseNames_over : Rows.HouseNamesSaid :=
  OpenClaim.holds_of_wide 4 Tryz.f4 rfl rfl rfl rfl rfl rfl rfl ⟨rfl, rfl, rfl, rfl, rfl⟩ rfl rfl rfl rfl rfl (by kernel_rfl) Tryz.func4 (by kernel_rfl)
    (of_decide_eq_true (by kernel_rfl)) (by unfold Func.isWrapper; first | (rw [if_pos (by decide +kernel)]; kernel_rfl) | (rw [if_neg (by decide +kernel)]; exact ⟨rfl, rfl⟩))
    (fun os started H enc _ => houseNames_lifted os started H enc)
theorem houseNames_holds : Rows.HouseNamesCardSaid :=
  Claim7.holds_tied_plain_at .later [] [.data, .data, .data, .data, .handle, .sentinel, .sentinel, .pinned] true (true, "567cd9a5c66934aa37be68bd4db66407864e1ff49161a0b7fa14f1cec2a76243") true
    houseNames_over (fun _ h => by cases h) (by kernel_rfl) (fun _ h => by cases h) houseNames_row_tie rfl ⟨rfl, rfl⟩ (by kernel_rfl) rfl
    (fun f fn hf hfn => by
      obtain rfl : f = 4 := Option.some.inj ((show Tryz.prog.funcNamed "eddy/eddylaw31.HouseNames" = some 4 by kernel_rfl).symm.trans hf) |>.symm
      obtain rfl : fn = Tryz.f4 := (Option.some.inj (Tryz.func4.symm.trans hfn)).symm
      exact ⟨by kernel_rfl, fun j t ht => by
        rw [Tryz.params4] at ht
        rcases j with _ | j
        · simp at ht
        · simp at ht⟩)
    (by kernel_rfl)
end
end Go.Proofs.YtmjpfoninpbgiaaGreatDoor
