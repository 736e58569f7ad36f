/- The library's row of sixteens. -/
import Derived.Test.YtnagagcgmfkjjaaGreatDoorJ
import Derived.Lib.LaidTab
import Derived.Lib.ItoaNum
import Derived.Laws.IdiomStrings
set_option linter.unusedSimpArgs false
set_option linter.unusedVariables false
namespace Go.Proofs.YtnagagcgmfkjjaaGreatDoor
open Go.RowKit

/-- What the library's variables hold. -/
structure Vars (w : World) : Prop where
  synt : ∃ tp p, w.cell? ⟨2, 0, none⟩ = some (.iface tp p)
  rang : ∃ tp p, w.cell? ⟨3, 0, none⟩ = some (.iface tp p)
  dbj : w.cell? ⟨7, 15, none⟩ = some (.int .u8 4)
  tab : w.var? Tryz.prog "internal/strconv.uint64pow10" = some (Lib.pow10Tab.map fun z => Value.int .u64 z).toArray
  typ : w.cell? ⟨1, 0, none⟩ = some (.iface 160 (.agg #[.pointer (some ⟨8, 27, none⟩)]))
theorem tab_named : Tryz.prog.globalNamed "internal/strconv.uint64pow10" = some 4 := by kernel_rfl
theorem Vars.keep {B : Nat} {S : List Nat} {w w' : World} (V : Vars w) (K : Keeps B S w w') (hB : 8 ≤ B) (hS : ∀ k ∈ S, 8 ≤ k) : Vars w' := by
  obtain ⟨⟨a, b, h1⟩, ⟨c, e, h2⟩, h3, h4, h5⟩ := V
  have hk : ∀ k, k < 8 → w'.heap[k]? = w.heap[k]? := fun k hk => K.block k (by omega) (fun h => by have := hS _ h; omega)
  have hc : ∀ k o, k < 8 → w'.cell? ⟨k, o, none⟩ = w.cell? ⟨k, o, none⟩ := fun k o h => by simp only [World.cell?, hk k h]
  refine ⟨⟨a, b, (hc 2 0 (by omega)).trans h1⟩, ⟨c, e, (hc 3 0 (by omega)).trans h2⟩, (hc 7 15 (by omega)).trans h3, ?_, (hc 1 0 (by omega)).trans h5⟩
  rw [← h4]
  simp only [World.var?, tab_named, Option.bind_some, hk 4 (by omega)]
theorem Vars.tabIs {w : World} (V : Vars w) : Lib.TabIs Tryz.prog w "internal/strconv.uint64pow10" .u64 Lib.pow10Tab := V.tab
set_option maxHeartbeats 4000000 in
set_option maxRecDepth 100000 in
theorem pow2_16 (w : World) : Calls Tryz.prog 137 #[.int .i64 16] w fun e w' => e = .returned (.bool true) ∧ w' = w := by
  have h : bits .and .i64 16 15 = 0 := by decide
  go_enter Tryz.func137, Tryz.ntmps137
  go_wp2
  go_ret
  exact ⟨rfl, rfl⟩
set_option maxHeartbeats 4000000 in
set_option maxRecDepth 100000 in
theorem zeros64_16 (w : World) (V : Vars w) : Calls Tryz.prog 140 #[.int .u64 16] w fun e w' => e = .returned (.int .i64 4) ∧ w' = w := by
  have h1 : IntKind.u64.wrap (-16) = 18446744073709551600 := by rw [IntKind.wrap_u64]; decide
  have h2 : bits .and .u64 16 18446744073709551600 = 16 := by decide
  have h3 : IntKind.u64.wrap 4573923408821661840 = 4573923408821661840 := by rw [IntKind.wrap_u64]; decide
  have hd := V.dbj
  go_enter Tryz.func140, Tryz.ntmps140
  go_wp2
  go_ret
  exact ⟨rfl, rfl⟩
set_option maxHeartbeats 4000000 in
set_option maxRecDepth 100000 in
theorem zeros_16 (w : World) (V : Vars w) : Calls Tryz.prog 138 #[.int .u64 16] w fun e w' => e = .returned (.int .i64 4) ∧ w' = w := by
  go_enter Tryz.func138, Tryz.ntmps138
  go_wp2_with (go_at_call 140; ((with_reducible refine (zeros64_16 _ V).mono ?_); rintro e w' ⟨rfl, rfl⟩))
  go_ret
  exact ⟨rfl, rfl⟩

def digs : ByteArray := ⟨#[48, 49, 50, 51, 52, 53, 54, 55, 56, 57, 97, 98, 99, 100, 101, 102, 103, 104, 105, 106, 107, 108, 109, 110, 111, 112, 113, 114, 115, 116, 117, 118, 119, 120, 121, 122]⟩
theorem and15 (u : Nat) (h : u < 18446744073709551616) : bits .and .u64 (u : Int) 15 = ((u % 16 : Nat) : Int) := by
  have h1 := u64_and_nat u 15 h (by omega)
  rw [Nat.and_two_pow_sub_one_eq_mod u 4] at h1
  exact h1

/-- The row is written from behind: k sixteens stand, the rest is u. -/
structure Hx (n : Nat) (w : World) (k u : Nat) (l : By) (wr : World) : Prop where
  blk : ∃ cs, wr.heap[w.heap.size]? = some (.cells cs 202 (0, 0)) ∧ cs.size = 65 ∧ ∀ i, i < k → cs[65 - k + i]? = some (.int .u8 (l.getD i 0).toNat)
  len : l.length = k
  le : k ≤ 15
  lt : u < 16 ^ (16 - k)
  eq : hexM n = hexM u ++ l
  keep : Keeps w.heap.size [] w wr
theorem setNew (cs : Array Value) (k : Nat) (l : By) (c : UInt8) (hs : cs.size = 65) (hk : k ≤ 15) (hl : l.length = k) (h : ∀ i, i < k → cs[65 - k + i]? = some (.int .u8 (l.getD i 0).toNat)) :
    ∀ i, i < k + 1 → (cs.setIfInBounds (64 - k) (.int .u8 c.toNat))[65 - (k + 1) + i]? = some (.int .u8 ((c :: l).getD i 0).toNat) := by
  intro i hi
  cases i with
  | zero => rw [show 65 - (k + 1) + 0 = 64 - k by omega, Array.getElem?_setIfInBounds_self_of_lt (by omega)]; rfl
  | succ i =>
    rw [Array.getElem?_setIfInBounds_ne (by omega), show 65 - (k + 1) + (i + 1) = 65 - k + i by omega, h i (by omega)]
    rfl
theorem Hx.step {n : Nat} {w : World} {k u : Nat} {l : By} {wr : World} (h : Hx n w k u l wr) (hu : ¬ u < 16) :
    Hx n w (k + 1) (u / 16) (hexC (u % 16) :: l) (wr.setCell ⟨w.heap.size, 64 - k, none⟩ (.int .u8 (hexC (u % 16)).toNat)) ∧ k ≤ 14 := by
  obtain ⟨⟨cs, hb, hs, hc⟩, hlen, hle, hlt, he, hk⟩ := h
  have h14 : k ≤ 14 := by
    rcases Nat.lt_or_ge k 15 with h | h
    · omega
    · have e1 : 16 - k = 1 := by omega
      rw [e1] at hlt
      omega
  refine ⟨⟨⟨_, set_of_block hb _ _, by simpa using hs, setNew cs k l _ hs hle hlen hc⟩, by simp [hlen], by omega, ?_, ?_, hk.set (Or.inr (Nat.le_refl _)) _ _⟩, h14⟩
  · have e1 : 16 - k = (16 - (k + 1)) + 1 := by omega
    rw [e1, Nat.pow_succ] at hlt
    omega
  · rw [he, hexM_ge u hu]; simp
theorem Hx.fin {n : Nat} {w : World} {k u : Nat} {l : By} {wr : World} (h : Hx n w k u l wr) (hu : u < 16) :
    ∀ j (hj : j < (hexM n).length), (wr.setCell ⟨w.heap.size, 64 - k, none⟩ (.int .u8 (hexC u).toNat)).cell? (Addr.add ⟨w.heap.size, 64 - k, none⟩ j) = some (.int .u8 ((hexM n)[j].toNat : Int)) := by
  obtain ⟨⟨cs, hb, hs, hc⟩, hlen, hle, hlt, he, hk⟩ := h
  have hl : hexM n = hexC u :: l := by rw [he, hexM_lt u hu]; rfl
  intro j hj
  have h1 := setNew cs k l (hexC u) hs hle hlen hc j (by rw [hl] at hj; simp [hlen] at hj; omega)
  have h2 : ((hexC u :: l).getD j 0) = (hexM n)[j] := by
    rw [List.getD_eq_getElem?_getD]
    simp only [← hl, List.getElem?_eq_getElem hj, Option.getD_some]
  rw [h2] at h1
  have ea : Addr.add ⟨w.heap.size, 64 - k, none⟩ j = ⟨w.heap.size, 64 - k + j, none⟩ := by simp [Addr.add]
  rw [ea]
  rw [cell_of_block (set_of_block hb (64 - k) _), show 64 - k + j = 65 - (k + 1) + j by omega]
  exact h1
theorem digs_at (d : Nat) (h : d < 16) : digs.data.toList.getD d 0 = hexC d := by
  have H : ∀ n : Fin 16, digs.data.toList.getD n.1 0 = hexC n.1 := by decide +kernel
  exact H ⟨d, h⟩
theorem slice202 (W : World) (g j : Nat) (hj : j ≤ 64) : (Instr.sliceAt 202 (.pointer (some ⟨g, 0, none⟩)) (some (.int .i64 j)) none none).run Tryz.prog W = .ok (.slice (some ⟨g, j, none⟩) (65 - j) (65 - j)) W := by
  have hal : Tryz.prog.arrayLen 202 = 65 := by simp [Program.arrayLen, Tryz.underlying202]
  have hel : Tryz.prog.elem 202 = 5 := by simp [Program.elem, Tryz.underlying202]
  have hsz : (sizeOf (5 : TypeId)).run Tryz.prog W = .ok 1 W := by kernel_rfl
  rw [run_sliceAt_array_l W 202 ⟨g, 0, none⟩ (by simp [Program.arrayLen, Program.elem, Tryz.underlying202]) .i64 j (by omega) (by rw [hal]; omega), hal, hel, hsz]
  simp only [Result.andThen, slicedAt, Int.toNat_natCast, Nat.mul_one]
  rw [if_neg (by omega)]
  simp [Addr.add]
  omega
theorem digs_get (d : Nat) (h : d < 36) (h16 : d < 16) : digs[d]'h = hexC d := by
  have H : ∀ n : Fin 16, digs[n.1]'(Nat.lt_trans n.2 (by decide)) = hexC n.1 := by decide +kernel
  exact H ⟨d, h16⟩
set_option maxHeartbeats 8000000 in
set_option maxRecDepth 100000 in
theorem format_bits (n : Nat) (hn : n < 18446744073709551616) (w : World) (V : Vars w) (hB : 8 ≤ w.heap.size) :
    Calls Tryz.prog 126 #[.slice none 0 0, .int .u64 n, .int .i64 16, .bool false, .bool false] w fun e w' => e = .returned (.tuple #[.slice none 0 0, .string ⟨(hexM n).toArray⟩]) ∧ Below w.heap.size w w' := by
  go_enter Tryz.func126, Tryz.ntmps126
  go_wp2_with (first | (go_at_call 137; ((with_reducible refine (pow2_16 _).mono ?_); rintro e w' ⟨rfl, rfl⟩)) | (go_at_call 138; ((with_reducible refine (zeros_16 _ (V.keep (Keeps.alloc (Keeps.refl w.heap.size [] _) (Nat.le_refl _) _) hB (by simp))).mono ?_); rintro e w' ⟨rfl, rfl⟩)))
  go_loopw [1, 13] (fun vu vi wr => ∃ (k u : Nat) (l : By), vu = .int .u64 u ∧ vi = .int .i64 (((64 - k : Nat) : Int) + 1) ∧ Hid (Hx n w k u l wr)) (fun vu _ _ => (intOf vu).toNat)
  case atStart =>
    refine ⟨0, n, [], rfl, rfl, hid ⟨⟨Tryz.zeroCells202, by simp only [block_at], by kernel_rfl, fun i hi => by omega⟩, rfl, by omega, by omega, by simp, (Keeps.refl _ _ _).alloc (Nat.le_refl _) _⟩⟩
  case round =>
    obtain ⟨k, u, l, rfl, rfl, hx⟩ := hrel
    obtain ⟨cs, hb, hs, -⟩ := hx.out.blk
    have hle := hx.out.le
    obtain ⟨j, hj⟩ : ∃ j, j = 64 - k := ⟨_, rfl⟩
    obtain ⟨v0, c0⟩ : ∃ v0, wr.cell? ⟨w.heap.size, j, none⟩ = some v0 := ⟨cs[j], by rw [cell_of_block hb]; exact Array.getElem?_eq_getElem (by omega)⟩
    have f0 := free_of_block hb j
    have hjj : j ≤ 64 := by omega
    have hu64 : u < 18446744073709551616 := by
      have := hx.out.lt
      have h2 : 16 ^ (16 - k) ≤ 16 ^ 16 := Nat.pow_le_pow_right (by decide) (by omega)
      have h3 : (16 : Nat) ^ 16 = 18446744073709551616 := by decide
      omega
    have HB := hid hb
    have HS := hid hs
    have HJ := hid hj
    rw [← hj]
    clear hb hj
    by_cases hu : u < 16
    · have hd := digs_get u (by omega) hu
      unfold digs at hd
      have hsl := slice202
      have hfin := hx.out.fin hu
      rw [← HJ.out, ← hd] at hfin
      have hlen : (hexM n).length = k + 1 := by rw [hx.out.eq, hexM_lt u hu]; simp [hx.out.len]
      have hk65 : 65 - j = (hexM n).length := by rw [hlen, HJ.out]; omega
      have hcv := run_convert_bytes_back (P := Tryz.prog) _ 68 9 5 ⟨w.heap.size, j, none⟩ (65 - j) (hexM n) Tryz.underlying68 Tryz.underlying5 Tryz.underlying9 hfin
      rw [← hk65] at hcv
      have KK := hid (Keeps.set (S := []) hx.out.keep (Or.inr (Nat.le_refl _)) j (.int .u8 (hexC u).toNat))
      rw [← hd] at KK
      clear hd hfin hk65 hlen
      go_wp2
      go_ret2
      exact ⟨rfl, KK.out.below⟩
    · have ha := and15 u hu64
      have hd := digs_get (u % 16) (by omega) (by omega)
      obtain ⟨hst, h14⟩ := hx.out.step hu
      rw [← HJ.out] at hst
      rw [← hd] at hst
      unfold digs at hst
      have HST := hid hst
      clear hst hd
      obtain ⟨q, hq⟩ : ∃ q, q = u % 16 := ⟨_, rfl⟩
      rw [← hq] at ha
      have hq16 : q < 16 := by omega
      have HQ := hid hq
      clear hq
      go_wp2
      obtain rfl := HQ.out
      exact ⟨⟨k + 1, u / 16, _, by rfl, by rw [show (((64 - (k + 1) : Nat) : Int) + 1) = (j : Int) by rw [HJ.out]; omega], HST⟩, by simp [intOf]; omega⟩
set_option maxRecDepth 100000 in
theorem format_108 (n : Nat) (hn : n < 18446744073709551616) (w : World) (V : Vars w) (hB : 8 ≤ w.heap.size) :
    Calls Tryz.prog 108 #[.int .u64 n, .int .i64 16] w fun e w' => e = .returned (.string ⟨(hexM n).toArray⟩) ∧ Below w.heap.size w w' := by
  go_enter Tryz.func108, Tryz.ntmps108
  go_wp2_with fail
  refine (format_bits n hn _ V hB).mono ?_
  rintro e wq ⟨rfl, hb⟩
  go_wp2_with fail
  go_ret
  exact ⟨rfl, hb⟩
set_option maxRecDepth 100000 in
theorem format_94 (n : Nat) (hn : n < 18446744073709551616) (w : World) (V : Vars w) (hB : 8 ≤ w.heap.size) :
    Calls Tryz.prog 94 #[.int .u64 n, .int .i64 16] w fun e w' => e = .returned (.string ⟨(hexM n).toArray⟩) ∧ Below w.heap.size w w' := by
  go_enter Tryz.func94, Tryz.ntmps94
  go_wp2_with fail
  refine (format_108 n hn _ V hB).mono ?_
  rintro e wq ⟨rfl, hb⟩
  go_wp2_with fail
  go_ret
  exact ⟨rfl, hb⟩
end Go.Proofs.YtnagagcgmfkjjaaGreatDoor
