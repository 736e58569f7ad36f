/- Flows of streams, odd texts, sixteens: the statement's own functions. -/
import Derived.Test.YtnagagcgmfkjjaaGreatDoorCA
import Derived.Test.YtnagagcgmfkjjaaGreatDoorBI
import Derived.OwnWalk
set_option linter.unusedSimpArgs false
set_option linter.unusedVariables false
namespace Go.Proofs.YtnagagcgmfkjjaaGreatDoor
open Go.RowKit
theorem mul_four (k j : Nat) (hj : j < 4) : (k * 4 + j) / 4 = k ∧ (k * 4 + j) % 4 = j := by omega
set_option maxRecDepth 100000 in
set_option maxHeartbeats 8000000 in
theorem streams_any (w : World) : Calls Tryz.prog 23 #[.int .i64 256] w fun e w' => ∃ sv, e = .returned sv ∧ w'.ownsRow w.heap.size 56 4 sv 256 ((List.replicate 256 oneStream).flatMap elCells) ∧ Below w.heap.size w w' := by
  obtain ⟨ti, hti, htz, hts, htb⟩ := info_parts Tryz.info56
  go_enter Tryz.func23, Tryz.ntmps23
  go_wp2_with (at_make; refine wpList_make_full _ rfl _ _ 23 rfl w.heap.size 56 ti _ 4 Tryz.underlying23 hti htz hts .i64 .i64 _ _ 256 rfl rfl rfl rfl (by rw [htb]; omega) (by unfold maxLen; omega) (Nat.le_refl _) ?_; intro w1 hown hgrow)
  rcases hown.2 with ⟨h0, -⟩ | ⟨g, cap, cur, he, hg, hb, h1, h2, h3, h4⟩
  · cases h0
  simp only [Value.slice.injEq, Option.some.injEq, Addr.mk.injEq] at he
  obtain ⟨⟨rfl, -, -⟩, -, rfl⟩ := he
  have HB := hid hb
  have H3 := hid h3
  have KP : Hid (Keeps w.heap.size [] w w1) := hid ⟨hgrow.os, hgrow.tape, hgrow.output, hgrow.size, fun k hk _ => hgrow.block k hk (by simp)⟩
  have hlt := lt_of_block hb
  clear hown hgrow hb h1 h2 h3 h4 hg
  go_wp2_with fail
  go_loopw [4] (fun t wr => ∃ k : Nat, t = .int .i64 k ∧ k ≤ 256 ∧ ∃ C : Array Value, Hid (wr.heap[w.heap.size]? = some (.cells C 56 (0, 0))) ∧ Hid (C.size = 256 * 4) ∧ Hid (∀ i, i < k * 4 → C[i]? = (elCells oneStream)[i % 4]?) ∧ Hid (Keeps w.heap.size [] w wr)) (fun t _ => 256 - (intOf t).toNat)
  case atStart => exact ⟨0, rfl, by omega, cur, HB, H3, hid (fun i hi => by omega), KP⟩
  case round =>
    obtain ⟨k, rfl, hk, C, hC, hS, hE, hK⟩ := hrel
    haveI : Has wr w.heap.size := ⟨lt_of_block hC.out⟩
    by_cases hkn : k < 256
    · have hk' : (k : Int) < 256 := by omega
      have hk0 : (0 : Int) ≤ (k : Int) := by omega
      have hcz : ∀ j, j < 4 → ∃ v, wr.cell? ⟨w.heap.size, k * 4 + j, none⟩ = some v := fun j hj => by
        rw [cell_of_block hC.out]
        exact ⟨_, Array.getElem?_eq_getElem (by rw [hS.out]; omega)⟩
      obtain ⟨u0, c0⟩ := hcz 0 (by omega)
      obtain ⟨u1, c1⟩ := hcz 1 (by omega)
      obtain ⟨u2, c2⟩ := hcz 2 (by omega)
      obtain ⟨u3, c3⟩ := hcz 3 (by omega)
      have f0 := free_of_block hC.out (k * 4)
      have f1 := free_of_block hC.out (k * 4 + 1)
      have f2 := free_of_block hC.out (k * 4 + 2)
      have f3 := free_of_block hC.out (k * 4 + 3)
      simp only [Nat.add_zero] at c0
      clear hcz
      go_wp2_with fail
      go_roundw
      case rel =>
        have hb := set_of_block (set_of_block (set_of_block (set_of_block hC.out (k * 4) (.int .u8 1)) (k * 4 + 1) (.complex .f64 0 0)) (k * 4 + 2) (.complex .f64 4607182418800017408 0)) (k * 4 + 3) (.float .f64 0)
        have hsz := hS.out
        refine ⟨k + 1, by rfl, by omega, _, hid hb, hid (by simp [hsz]), hid (fun i hi => ?_), hid (((((hK.out.set (Or.inr (Nat.le_refl _)) _ _).set (Or.inr (Nat.le_refl _)) _ _).set (Or.inr (Nat.le_refl _)) _ _)).set (Or.inr (Nat.le_refl _)) _ _)⟩
        by_cases h3 : i = k * 4 + 3
        · subst h3
          rw [(mul_four k 3 (by omega)).2, Array.getElem?_setIfInBounds_self_of_lt (by simp [hsz]; omega)]; rfl
        rw [Array.getElem?_setIfInBounds_ne (by omega)]
        by_cases h2 : i = k * 4 + 2
        · subst h2
          rw [(mul_four k 2 (by omega)).2, Array.getElem?_setIfInBounds_self_of_lt (by simp [hsz]; omega)]; rfl
        rw [Array.getElem?_setIfInBounds_ne (by omega)]
        by_cases h1 : i = k * 4 + 1
        · subst h1
          rw [(mul_four k 1 (by omega)).2, Array.getElem?_setIfInBounds_self_of_lt (by simp [hsz]; omega)]; rfl
        rw [Array.getElem?_setIfInBounds_ne (by omega)]
        by_cases h0 : i = k * 4
        · subst h0
          rw [(show k * 4 % 4 = 0 by omega), Array.getElem?_setIfInBounds_self_of_lt (by omega)]; rfl
        rw [Array.getElem?_setIfInBounds_ne (by omega)]
        exact hE.out i (by omega)
      case measure => simp [intOf]; omega
    · obtain rfl : k = 256 := by omega
      go_wp2_with fail
      go_ret
      refine ⟨_, rfl, ⟨?_, .inr ⟨w.heap.size, 256, C, rfl, Nat.le_refl _, hC.out, Nat.le_refl _, by decide, hS.out, ?_⟩⟩, hK.out.below⟩
      · rw [flat_rep]; rfl
      · have hsz := hS.out
        rw [List.take_of_length_le (by rw [Array.length_toList, hsz]; exact Nat.le_refl _)]
        refine List.ext_getElem? (fun i => ?_)
        rw [Array.getElem?_toList]
        by_cases hi : i < 256 * 4
        · rw [hE.out i hi]
          have hk : (List.replicate 256 oneStream)[i / 4]? = some oneStream := by rw [List.getElem?_replicate, if_pos (by omega)]
          have := flat_at elCells 4 (fun _ => rfl) (List.replicate 256 oneStream) (i / 4) (i % 4) oneStream hk (by omega)
          rw [Nat.div_add_mod' i 4] at this
          exact this.symm
        · rw [Array.getElem?_eq_none (by omega), List.getElem?_eq_none (by rw [flat_rep]; show 256 * 4 ≤ i; omega)]
def sixD : ByteArray := ⟨#[48, 49, 50, 51, 52, 53, 54, 55, 56, 57, 97, 98, 99, 100, 101, 102]⟩
def sixP (n j : Nat) : Nat := n / 2 ^ (60 - 4 * j) % 16
def sixB (n : Nat) : Nat → ByteArray
  | 0 => ⟨#[]⟩
  | j + 1 => sixB n j ++ sixD.extract (sixP n j) (sixP n j + 1)
theorem sixB_size (n : Nat) : ∀ j, (sixB n j).size ≤ j := by
  intro j
  induction j with
  | zero => exact Nat.le_refl _
  | succ j ih =>
    have h : (sixB n (j + 1)).size = (sixB n j).size + (sixD.extract (sixP n j) (sixP n j + 1)).size := by simp [sixB]
    have h2 : (sixD.extract (sixP n j) (sixP n j + 1)).size ≤ 1 := by rw [ByteArray.size_extract]; omega
    omega
set_option maxRecDepth 100000 in
set_option maxHeartbeats 8000000 in
theorem sixteen25 (n : Nat) (hn : n < 18446744073709551616) (w : World) : Calls Tryz.prog 25 #[.int .u64 n] w fun e w' => e = .returned (.string (sixB n 16)) ∧ w' = w := by
  go_enter Tryz.func25, Tryz.ntmps25
  go_wp2_with fail
  go_loop [3, 4] (fun s3 s4 => ∃ (j : Nat) (i : Int), s3 = .string (sixB n j) ∧ s4 = .int .i64 i ∧ i = 60 - 4 * (j : Int) ∧ j ≤ 16) (fun _ s4 => (intOf s4 + 4).toNat)
  case atStart => exact ⟨0, 60, rfl, rfl, by omega, by omega⟩
  case round =>
    obtain ⟨j, i, rfl, rfl, hi, hj⟩ := hrel
    by_cases h : j < 16
    · have hi0 : 0 ≤ i := by omega
      have hi1 : i ≤ 60 := by omega
      have hq : n / 2 ^ (60 - 4 * j) < 18446744073709551616 := Nat.lt_of_le_of_lt (Nat.div_le_self _ _) hn
      have hx : bits BinOp.and IntKind.u64 ((n : Int) / 2 ^ (60 - 4 * j)) 15 = ((sixP n j : Nat) : Int) := by
        have := and15 (n / 2 ^ (60 - 4 * j)) hq
        unfold sixP
        rw [← this]
        congr 1
      have hp : sixP n j < 16 := Nat.mod_lt _ (by decide)
      have hsz := sixB_size n j
      obtain ⟨p, hpp⟩ : ∃ p, p = sixP n j := ⟨_, rfl⟩
      have hsx : sixB n (j + 1) = sixB n j ++ sixD.extract p (p + 1) := by rw [hpp]; rfl
      rw [← hpp] at hx hp
      have w1 : RowKit.wrap64 (p : Int) = (p : Int) := by unfold RowKit.wrap64; omega
      have w2 : RowKit.wrap64 ((p : Int) + 1) = ((p + 1 : Nat) : Int) := by unfold RowKit.wrap64; omega
      have HSX := hid hsx
      clear hpp hsx hq
      generalize sixB n j = sb at hsz HSX ⊢
      subst hi
      go_wp2_with fail
      exact ⟨⟨j + 1, _, by rw [HSX.out]; rfl, by rfl, by omega, by omega⟩, by simp [intOf]; omega⟩
    · have hi0 : ¬ 0 ≤ i := by omega
      obtain rfl : j = 16 := by omega
      go_wp2_with fail
      go_ret
      exact ⟨rfl, rfl⟩
theorem own_strs (w : World) (ss : List ByteArray) (g B0 : Nat) (hg : B0 ≤ g) (h : w.heap[g]? = some (.cells (ss.map Value.string).toArray 9 (0, 0))) (hn : ss.length ≤ 1000) : w.ownsRow B0 9 1 (.slice (some ⟨g, 0, none⟩) ss.length ss.length) ss.length (ss.map Value.string) :=
  ⟨by simp, .inr ⟨g, ss.length, (ss.map Value.string).toArray, rfl, hg, h, Nat.le_refl _, by unfold maxLen; omega, by simp, by show (List.map Value.string ss).take (ss.length * 1) = _; rw [Nat.mul_one]; exact List.take_of_length_le (by simp)⟩⟩
set_option maxRecDepth 100000 in
set_option maxHeartbeats 16000000 in
theorem odd_any (w : World) : Calls Tryz.prog 24 #[] w fun e w' => ∃ (sv : Value) (ts : List ByteArray), e = .returned sv ∧ ts.length = 16 ∧ (∀ t ∈ ts, t.size ≤ 1000) ∧ w'.ownsRow w.heap.size 9 1 sv 16 (ts.map Value.string) ∧ Below w.heap.size w w' := by
  obtain ⟨ti, hti, htz, hts, htb⟩ := info_parts Tryz.info9
  go_enter Tryz.func24, Tryz.ntmps24
  go_upto_region 4 with fail
  go_cut [4] from 16 to 28 (fun s4 wx => ∃ ss : List ByteArray, ss.length = 9 ∧ (∀ t ∈ ss, t.size ≤ 1000) ∧ s4 = .slice (some ⟨w.heap.size, 0, none⟩) 9 9 ∧ wx = w.alloc (.cells (ss.map Value.string).toArray 9))
  case first =>
    go_wp2_with fail
    go_meet
    refine ⟨[_, _, _, _, _, _, _, _, _], rfl, ?_, rfl, rfl⟩
    intro t ht
    simp only [List.mem_cons, List.not_mem_nil, or_false] at ht
    rcases ht with rfl | rfl | rfl | rfl | rfl | rfl | rfl | rfl | rfl <;> simp [ByteArray.size_append, ByteArray.size]
  case rest =>
    obtain ⟨ss, hsl, hss, rfl, rfl⟩ := hcut
    have HSS := hid hss
    have HSL := hid hsl
    clear hss hsl
    go_upto_region 5 with fail
    go_cut [5] from 29 to 85 (fun s5 wx => ∃ bs : List ByteArray, bs.length = 7 ∧ (∀ t ∈ bs, t.size ≤ 1000) ∧ s5 = .slice (some ⟨w.heap.size + 1, 0, none⟩) 7 7 ∧ wx = (w.alloc (.cells (ss.map Value.string).toArray 9)).alloc (.cells (bs.map Value.string).toArray 9))
    case first =>
      go_wp2_with fail
      go_meet
      refine ⟨[_, _, _, _, _, _, _], rfl, ?_, rfl, rfl⟩
      intro t ht
      simp only [List.mem_cons, List.not_mem_nil, or_false] at ht
      rcases ht with rfl | rfl | rfl | rfl | rfl | rfl | rfl <;> simp [ByteArray.size_append, ByteArray.size]
    case rest =>
      obtain ⟨bs, hbl, hbs, rfl, rfl⟩ := hcut
      have hsl := HSL.out
      have A := own_strs ((w.alloc (.cells (ss.map Value.string).toArray 9)).alloc (.cells (bs.map Value.string).toArray 9)) ss w.heap.size w.heap.size (Nat.le_refl _) (by simp only [block_alloc', block_at]) (by omega)
      rw [hsl] at A
      have bB : ((w.alloc (.cells (ss.map Value.string).toArray 9)).alloc (.cells (bs.map Value.string).toArray 9)).heap[w.heap.size + 1]? = some (.cells (bs.map Value.string).toArray 9 (0, 0)) := by simp only [block_at]
      have OA := hid A
      have BB := hid bB
      have HBS := hid hbs
      have HBL := hid hbl
      have hnl : (bs.map Value.string).length = 7 * 1 := by simp [hbl]
      have hone : ∀ u ∈ bs.map Value.string, u.oneCell' = true := by
        intro u hu
        obtain ⟨t, -, rfl⟩ := List.mem_map.1 hu
        rfl
      clear A bB hbs hbl hsl
      go_wp2_with (at_builtin; (refine wpList_append_lies _ (by rfl) _ _ _ (by rfl) w.heap.size 9 ti _ 1 16 Tryz.underlying69 hti htz hts htb rfl (by omega) (.slice (some ⟨w.heap.size, 0, none⟩) 9 9) 9 (ss.map Value.string) (by rfl) OA.out ⟨w.heap.size + 1, 0, none⟩ 7 7 (bs.map Value.string) (by rfl) hnl (World.news_of_block (cs := (bs.map Value.string).toArray) (t := 9) (fr := (0, 0)) BB.out) hone (by omega) (by unfold maxLen; omega) (by omega) (by simp; omega) _ rfl ?_; intro g cap wa hown hgrow hat hlt))
      go_ret
      refine ⟨_, ss ++ bs, rfl, by rw [List.length_append, HSL.out, HBL.out], fun t ht => ?_, by rw [List.map_append]; exact hown, ?_⟩
      · rcases List.mem_append.1 ht with h | h
        · exact HSS.out t h
        · exact HBS.out t h
      · refine Keeps.below ⟨?_, ?_, ?_, ?_, fun k hk _ => ?_⟩
        · exact hgrow.os
        · exact hgrow.tape
        · exact hgrow.output
        · exact Nat.le_trans (by simp; omega) hgrow.size
        · refine (hgrow.block k (by simp; omega) (by simp [Value.ownBlock]; omega)).trans ?_
          rw [Below.heap_alloc _ _ k (by simp; omega), Below.heap_alloc _ _ k hk]
end Go.Proofs.YtnagagcgmfkjjaaGreatDoor
