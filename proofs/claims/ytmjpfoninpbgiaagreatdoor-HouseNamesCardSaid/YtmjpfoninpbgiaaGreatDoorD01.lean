/- Rows of names: room is made. Rows of names: none and none, one and none, none and one. Are the names known?. What Put puts. A house's map. A name is put. Put. A name is got. Get. Names. A reader of the given program: is it well? a piece that is wrong. -/
import Derived.Test.YtmjpfoninpbgiaaGreatDoorD00
import Derived.Lib.AppendZeros
import Derived.Laws.AppendOwnNone
import Derived.Test.YtmjpfoninpbgiaaGreatDoorLocks
import Derived.Conc.MuLone
import Derived.Defers
import Derived.Test.YtmjpfoninpbgiaaGreatDoorIter
import Derived.WalkKit
import Derived.WalkLawsBesides
import Derived.WalkSpells
import Derived.Handy
set_option linter.unusedSimpArgs false
set_option linter.unusedVariables false
namespace Go.Proofs.YtmjpfoninpbgiaaGreatDoor
section
open Go.RowKit
/-! Rows of names. -/
/-- A cell that holds a name. -/
def EStr (_ : World) (u : Value) (s : ByteArray) : Prop := u = .string s
theorem eok_str (T : Nat) : EOk T EStr := ⟨fun h _ => h, fun _ _ h => h, fun h => by rw [h]; rfl⟩
/-- A part: none, or a row that is not empty. -/
def Part (w : World) (v : Value) (l : List ByteArray) : Prop := (l = [] ∧ v = .slice none 0 0) ∨ (0 < l.length ∧ Rw 9 EStr w v l)
theorem Part.below {w w' : World} {v : Value} {l : List ByteArray} (h : Part w v l) (b : Below w.heap.size w w') : Part w' v l := by
  rcases h with h | ⟨h1, h2⟩
  · exact .inl h
  · exact .inr ⟨h1, h2.below (eok_str 9) b⟩
theorem Part.form {w : World} {v : Value} {l : List ByteArray} (h : Part w v l) : ∃ a cap, v = .slice a l.length cap := by
  rcases h with ⟨rfl, rfl⟩ | ⟨-, h⟩
  · exact ⟨_, _, rfl⟩
  · obtain ⟨a, cap, h, -⟩ := h.form
    exact ⟨a, cap, h⟩
theorem info9z : (Tryz.prog.info? 9).map (fun i => (i.zero, i.size, i.bytes)) = some (some (.string ⟨#[]⟩), 1, 16) := by kernel_rfl
theorem und39z : Tryz.prog.underlying 39 = some (.slice 9) := by kernel_rfl
theorem und3z : Tryz.prog.underlying 3 = some (.int .i64) := by kernel_rfl
class OxC (w0 : outParam World) (w : World) (v : Value) (l : outParam (List ByteArray)) : Prop where
  out : Ox 9 EStr w0.heap.size w v l
theorem ox_room {w : World} {c : Nat} (h1 : c ≤ maxLen) {W : World} (hW : Below w.heap.size w W) {cur : Array Value} (hc : cur.size = c) : Ox 9 EStr w.heap.size (W.alloc (.cells cur 9)) (.slice (some ⟨W.heap.size, 0, none⟩) 0 c) ([] : List ByteArray) :=
  ⟨[], ⟨rfl, .inr ⟨W.heap.size, c, cur, rfl, hW.size, block_at W _ _, Nat.zero_le _, h1, by rw [hc, Nat.mul_one], rfl⟩⟩, fun i x h => by cases h⟩
set_option synthInstance.maxHeartbeats 2000000 in
set_option synthInstance.maxSize 100000 in
set_option maxRecDepth 100000 in
set_option maxHeartbeats 16000000 in
theorem hGrow0 {w : World} : Calls Tryz.prog 81 #[.slice none 0 0, .int .i64 0] w fun e w' => e = .returned (.slice none 0 0) ∧ w' = w := by
  go_enter Tryz.func81, Tryz.ntmps81
  go_wp2_with fail
  go_ret
  exact ⟨rfl, rfl⟩
set_option synthInstance.maxHeartbeats 2000000 in
set_option synthInstance.maxSize 100000 in
set_option maxRecDepth 100000 in
set_option maxHeartbeats 16000000 in
theorem hGrow {w : World} {n : Nat} (h0 : 0 < n) (hn : n ≤ 1000) : Calls Tryz.prog 81 #[.slice none 0 0, .int .i64 n] w fun e w' => ∃ v, e = .returned v ∧ Ox 9 EStr w.heap.size w' v [] ∧ Below w.heap.size w w' := by
  obtain ⟨ti, hti, htz, hts, htb⟩ := info_parts info9z
  have hr := Go.Lib.run_append_nil_zeros (P := Tryz.prog) w 39 3 39 9 ti _ .i64 .i64 und39z und3z hti htz n h0 (by rw [hts]; decide) (by omega) (by rw [htb]; omega)
  have h1 : ¬ ((n : Int) < 0) := by omega
  have h2 : (n : Int) > 0 := by omega
  have h3 : wrap64 ((n : Int) - 0) = n := by unfold wrap64; omega
  have g1 := grownCap_ge w n 0 9
  have g2 := grownCap_le_maxLen w n 0 9 (by unfold maxLen; omega)
  generalize grownCap w n 0 9 = c at *
  go_enter Tryz.func81, Tryz.ntmps81
  go_wp2_with (at_builtin; refine Go.Lib.wpList_append_run _ rfl _ _ _ _ rfl _ _ rfl rfl _ _ hr ?_)
  go_ret
  refine ⟨_, rfl, ox_room (W := w.drew) g2 (Below.drew (Below.refl _ _)) ?_, (Below.drew (Below.refl _ _)).alloc (Nat.le_refl _) _⟩
  simp [Builtin.zeroCells]
  try omega
end
section
open Go.RowKit
set_option synthInstance.maxHeartbeats 2000000 in
set_option synthInstance.maxSize 100000 in
set_option maxRecDepth 100000 in
set_option maxHeartbeats 16000000 in
theorem concatN {w : World} {g : Nat} [hb : BkC w g [.slice none 0 0, .slice none 0 0] 39] : Calls Tryz.prog 49 #[.slice (some ⟨g, 0, none⟩) 2 2] w fun e w' => e = .returned (.slice none 0 0) ∧ w' = w := by
  have c0 := hb.out.cell (i := 0) rfl
  have c1 := hb.out.cell (i := 1) rfl
  go_enter Tryz.func49, Tryz.ntmps49
  go_wp2_with fail
  go_loopw [3, 11] (fun s3 s11 wx => ∃ j : Int, s11 = .int .i64 j ∧ (j = 0 ∨ j = 1 ∨ j = 2) ∧ s3 = .int .i64 0 ∧ wx = w) (fun _ s11 _ => 2 - (intOf s11).toNat)
  case atStart => exact ⟨0, rfl, .inl rfl, rfl, rfl⟩
  case round =>
    obtain ⟨j, rfl, hj, rfl, rfl⟩ := hrel
    rcases hj with rfl | rfl | rfl
    · go_wp2_with fail
      go_round
      case rel => exact ⟨1, by first | rfl | go_num, .inr (.inl rfl), by first | rfl | trivial, by first | rfl | trivial⟩
      case measure => simp [intOf]
    · go_wp2_with fail
      go_round
      case rel => exact ⟨2, by first | rfl | go_num, .inr (.inr rfl), by first | rfl | trivial, by first | rfl | trivial⟩
      case measure => simp [intOf]
    · go_wp2_with (go_at_call 81; (with_reducible refine Calls.mono hGrow0 ?_); rintro e wc ⟨rfl, hw⟩; obtain rfl := hw.symm)
      go_loopw [6, 27] (fun s6 s27 wx => ∃ j : Int, s27 = .int .i64 j ∧ (j = 0 ∨ j = 1 ∨ j = 2) ∧ s6 = .slice none 0 0 ∧ wx = wr) (fun _ s27 _ => 2 - (intOf s27).toNat)
      case atStart => exact ⟨0, rfl, .inl rfl, rfl, rfl⟩
      case round =>
        obtain ⟨j, rfl, hj, rfl, rfl⟩ := hrel
        rcases hj with rfl | rfl | rfl
        · go_wp2_with (at_builtin; refine wpList_append_own_none rfl _ _ 39 rfl 0 9 _ 1 und39z (info_parts info9z).choose_spec.1 _ 0 [] rfl ⟨rfl, .inl ⟨rfl, rfl⟩⟩ rfl ?_)
          go_round
          case rel => exact ⟨1, by first | rfl | go_num, .inr (.inl rfl), by first | rfl | trivial, by first | rfl | trivial⟩
          case measure => simp [intOf]
        · go_wp2_with (at_builtin; refine wpList_append_own_none rfl _ _ 39 rfl 0 9 _ 1 und39z (info_parts info9z).choose_spec.1 _ 0 [] rfl ⟨rfl, .inl ⟨rfl, rfl⟩⟩ rfl ?_)
          go_round
          case rel => exact ⟨2, by first | rfl | go_num, .inr (.inr rfl), by first | rfl | trivial, by first | rfl | trivial⟩
          case measure => simp [intOf]
        · go_wp2_with fail
          go_ret
          exact ⟨rfl, rfl⟩
set_option synthInstance.maxHeartbeats 2000000 in
set_option synthInstance.maxSize 100000 in
set_option maxRecDepth 100000 in
set_option maxHeartbeats 16000000 in
theorem concatF {w : World} {g h c : Nat} {s : ByteArray} [hs : BkC w h [.string s] 9] [hb : BkC w g [.slice (some ⟨h, 0, none⟩) 1 c, .slice none 0 0] 39] (hc : 1 ≤ c) : Calls Tryz.prog 49 #[.slice (some ⟨g, 0, none⟩) 2 2] w fun e w' => ∃ v, e = .returned v ∧ Ox 9 EStr w.heap.size w' v [s] ∧ Below w.heap.size w w' := by
  have c0 := hb.out.cell (i := 0) rfl
  have c1 := hb.out.cell (i := 1) rfl
  have HR : Hid (Rw 9 EStr w (.slice (some ⟨h, 0, none⟩) 1 c) [s]) := hid ⟨_, _, rfl, hc, fun _ => ⟨h, 0, _, rfl, hs.out, fun i x hx => by
    rcases i with _ | i
    · exact ⟨_, rfl, by simp at hx; rw [← hx]; rfl⟩
    · simp at hx⟩⟩
  obtain ⟨ti, hti, htz, hts, htb⟩ := info_parts info9z
  clear hc
  go_enter Tryz.func49, Tryz.ntmps49
  go_wp2_with fail
  go_loopw [3, 11] (fun s3 s11 wx => ∃ j m : Int, s11 = .int .i64 j ∧ (j = 0 ∧ m = 0 ∨ j = 1 ∧ m = 1 ∨ j = 2 ∧ m = 1) ∧ s3 = .int .i64 m ∧ w = wx) (fun _ s11 _ => 2 - (intOf s11).toNat)
  case atStart => exact ⟨0, 0, rfl, .inl ⟨rfl, rfl⟩, rfl, rfl⟩
  case round =>
    obtain ⟨j, m, rfl, hj, rfl, rfl⟩ := hrel
    rcases hj with ⟨rfl, rfl⟩ | ⟨rfl, rfl⟩ | ⟨rfl, rfl⟩
    · go_wp2_with fail
      go_round
      case rel => exact ⟨1, 1, by first | rfl | go_num, .inr (.inl ⟨rfl, rfl⟩), by first | rfl | go_num | trivial, by first | rfl | trivial⟩
      case measure => simp [intOf]
    · go_wp2_with fail
      go_round
      case rel => exact ⟨2, 1, by first | rfl | go_num, .inr (.inr ⟨rfl, rfl⟩), by first | rfl | go_num | trivial, by first | rfl | trivial⟩
      case measure => simp [intOf]
    · go_wp2_with (go_at_call 81; (with_reducible refine Calls.mono (hGrow (n := 1) (by decide) (by decide)) ?_); rintro e wc ⟨gv, rfl, ho, kb⟩)
      go_loopw [6, 27] (fun s6 s27 wx => ∃ j : Int, s27 = .int .i64 j ∧ (j = 0 ∧ Ox 9 EStr w.heap.size wx s6 [] ∨ j = 1 ∧ Ox 9 EStr w.heap.size wx s6 [s] ∨ j = 2 ∧ Ox 9 EStr w.heap.size wx s6 [s]) ∧ Below w.heap.size w wx) (fun _ s27 _ => 2 - (intOf s27).toNat)
      case atStart => exact ⟨0, rfl, .inl ⟨rfl, ho⟩, kb⟩
      case round =>
        clear ho kb
        obtain ⟨j, rfl, hj, kb⟩ := hrel
        haveI kk : Kp0 w wr := ⟨kb⟩
        rcases hj with ⟨rfl, ho⟩ | ⟨rfl, ho⟩ | ⟨rfl, ho⟩
        · go_wp2_with (at_builtin; go_loud (refine app_row (eok_str 9) rfl _ _ 39 rfl w.heap.size ti _ 16 und39z hti htz hts htb rfl (by decide) rfl ho rfl (HR.out.below (eok_str 9) kb) (Nat.lt_succ_self 0) (show (0 : Nat) + 1 ≤ 1048576 by decide) kb.size ?_; intro g' cap' n' wa hn' ho' hg' hbl hkE; obtain rfl : n' = 1 := hn'; have kb' := hbl w (Nat.le_refl _) kb; clear hkE hbl))
          go_round
          case rel => exact ⟨1, by first | rfl | go_num, .inr (.inl ⟨rfl, ho'⟩), kb'⟩
          case measure => simp [intOf]
        · go_wp2_with (at_builtin; obtain ⟨xs, hxs, hex⟩ := ho; refine wpList_append_own_none rfl _ _ 39 rfl w.heap.size 9 _ 1 und39z hti _ _ xs rfl hxs rfl ?_)
          go_round
          case rel => exact ⟨2, by first | rfl | go_num, .inr (.inr ⟨rfl, ⟨xs, hxs, hex⟩⟩), kb⟩
          case measure => simp [intOf]
        · go_wp2_with fail
          go_ret
          exact ⟨_, rfl, ho, kb⟩
set_option synthInstance.maxHeartbeats 2000000 in
set_option synthInstance.maxSize 100000 in
set_option maxRecDepth 100000 in
set_option maxHeartbeats 16000000 in
theorem concatB {w : World} {g h c : Nat} {s : ByteArray} [hs : BkC w h [.string s] 9] [hb : BkC w g [.slice none 0 0, .slice (some ⟨h, 0, none⟩) 1 c] 39] (hc : 1 ≤ c) : Calls Tryz.prog 49 #[.slice (some ⟨g, 0, none⟩) 2 2] w fun e w' => ∃ v, e = .returned v ∧ Ox 9 EStr w.heap.size w' v [s] ∧ Below w.heap.size w w' := by
  have c0 := hb.out.cell (i := 0) rfl
  have c1 := hb.out.cell (i := 1) rfl
  have HR : Hid (Rw 9 EStr w (.slice (some ⟨h, 0, none⟩) 1 c) [s]) := hid ⟨_, _, rfl, hc, fun _ => ⟨h, 0, _, rfl, hs.out, fun i x hx => by
    rcases i with _ | i
    · exact ⟨_, rfl, by simp at hx; rw [← hx]; rfl⟩
    · simp at hx⟩⟩
  obtain ⟨ti, hti, htz, hts, htb⟩ := info_parts info9z
  clear hc
  go_enter Tryz.func49, Tryz.ntmps49
  go_wp2_with fail
  go_loopw [3, 11] (fun s3 s11 wx => ∃ j m : Int, s11 = .int .i64 j ∧ (j = 0 ∧ m = 0 ∨ j = 1 ∧ m = 0 ∨ j = 2 ∧ m = 1) ∧ s3 = .int .i64 m ∧ w = wx) (fun _ s11 _ => 2 - (intOf s11).toNat)
  case atStart => exact ⟨0, 0, rfl, .inl ⟨rfl, rfl⟩, rfl, rfl⟩
  case round =>
    obtain ⟨j, m, rfl, hj, rfl, rfl⟩ := hrel
    rcases hj with ⟨rfl, rfl⟩ | ⟨rfl, rfl⟩ | ⟨rfl, rfl⟩
    · go_wp2_with fail
      go_round
      case rel => exact ⟨1, 0, by first | rfl | go_num, .inr (.inl ⟨rfl, rfl⟩), by first | rfl | go_num | trivial, by first | rfl | trivial⟩
      case measure => simp [intOf]
    · go_wp2_with fail
      go_round
      case rel => exact ⟨2, 1, by first | rfl | go_num, .inr (.inr ⟨rfl, rfl⟩), by first | rfl | go_num | trivial, by first | rfl | trivial⟩
      case measure => simp [intOf]
    · go_wp2_with (go_at_call 81; (with_reducible refine Calls.mono (hGrow (n := 1) (by decide) (by decide)) ?_); rintro e wc ⟨gv, rfl, ho, kb⟩)
      go_loopw [6, 27] (fun s6 s27 wx => ∃ j : Int, s27 = .int .i64 j ∧ (j = 0 ∧ Ox 9 EStr w.heap.size wx s6 [] ∨ j = 1 ∧ Ox 9 EStr w.heap.size wx s6 [] ∨ j = 2 ∧ Ox 9 EStr w.heap.size wx s6 [s]) ∧ Below w.heap.size w wx) (fun _ s27 _ => 2 - (intOf s27).toNat)
      case atStart => exact ⟨0, rfl, .inl ⟨rfl, ho⟩, kb⟩
      case round =>
        clear ho kb
        obtain ⟨j, rfl, hj, kb⟩ := hrel
        haveI kk : Kp0 w wr := ⟨kb⟩
        rcases hj with ⟨rfl, ho⟩ | ⟨rfl, ho⟩ | ⟨rfl, ho⟩
        · go_wp2_with (at_builtin; obtain ⟨xs, hxs, hex⟩ := ho; refine wpList_append_own_none rfl _ _ 39 rfl w.heap.size 9 _ 1 und39z hti _ _ xs rfl hxs rfl ?_)
          go_round
          case rel => exact ⟨1, by first | rfl | go_num, .inr (.inl ⟨rfl, ⟨xs, hxs, hex⟩⟩), kb⟩
          case measure => simp [intOf]
        · go_wp2_with (at_builtin; go_loud (refine app_row (eok_str 9) rfl _ _ 39 rfl w.heap.size ti _ 16 und39z hti htz hts htb rfl (by decide) rfl ho rfl (HR.out.below (eok_str 9) kb) (Nat.lt_succ_self 0) (show (0 : Nat) + 1 ≤ 1048576 by decide) kb.size ?_; intro g' cap' n' wa hn' ho' hg' hbl hkE; obtain rfl : n' = 1 := hn'; have kb' := hbl w (Nat.le_refl _) kb; clear hkE hbl))
          go_round
          case rel => exact ⟨2, by first | rfl | go_num, .inr (.inr ⟨rfl, ho'⟩), kb'⟩
          case measure => simp [intOf]
        · go_wp2_with fail
          go_ret
          exact ⟨_, rfl, ho, kb⟩
end
section
open Go.RowKit
theorem ox_one {B : Nat} {w : World} {v : Value} {s : ByteArray} (h : Ox 9 EStr B w v [s]) : ∃ g cap, v = .slice (some ⟨g, 0, none⟩) 1 cap ∧ w.cell? ⟨g, 0, none⟩ = some (.string s) := by
  obtain ⟨xs, ⟨h1, h2⟩, h3⟩ := h
  rcases h2 with ⟨-, hl⟩ | ⟨g, cap, cur, rfl, hb, hg, hc, hm, hs, ht⟩
  · cases hl
  · refine ⟨g, cap, rfl, ?_⟩
    obtain ⟨u, q1, q2⟩ := h3 0 s rfl
    rw [cell_of_block hg, ← Array.getElem?_toList]
    rw [← ht, List.getElem?_take] at q1
    split at q1
    · rw [q1, q2]
    · cases q1
/-- A house: open, its lock free, its map's block. -/
class HouseC (w : World) (h m : Nat) : Prop where
  out : Bk w h [.bool true, .int .i32 0, .int .u32 0, .map (some m)] 51
instance houseC_bk (w : World) (h m : Nat) [k : BkC w h [.bool true, .int .i32 0, .int .u32 0, .map (some m)] 51] : HouseC w h m := ⟨k.out⟩
set_option synthInstance.maxHeartbeats 2000000 in
set_option synthInstance.maxSize 100000 in
set_option maxRecDepth 100000 in
set_option maxHeartbeats 16000000 in
theorem hKnownN {w : World} {h m : Nat} [hh : BkC w h [.bool true, .int .i32 0, .int .u32 0, .map (some m)] 51] : Calls Tryz.prog 24 #[.pointer (some ⟨h, 0, none⟩), .slice none 0 0, .slice none 0 0] w fun e w' => e = .returned (.int .i64 0) ∧ Kp0 w w' := by
  have c0 := hh.out.cell (i := 0) rfl
  go_enter Tryz.func24, Tryz.ntmps24
  go_wp2_with (go_at_call 49; (with_reducible refine Calls.mono concatN ?_); rintro e wc ⟨rfl, hw⟩; obtain rfl := hw.symm)
  go_loopw [23] (fun s23 wx => s23 = .int .i64 0 ∧ Kp0 w wx) (fun _ _ => 0)
  case atStart => exact ⟨rfl, ⟨Gr.out⟩⟩
  case round =>
    obtain ⟨rfl, ik⟩ := hrel
    go_wp2_with fail
    go_ret
    exact ⟨rfl, ⟨Gr.out⟩⟩
set_option synthInstance.maxHeartbeats 2000000 in
set_option synthInstance.maxSize 100000 in
set_option maxRecDepth 100000 in
set_option maxHeartbeats 16000000 in
theorem hKnownF {w : World} {h m g : Nat} {s : ByteArray} (hsz : s.size ≤ 70000) [hh : BkC w h [.bool true, .int .i32 0, .int .u32 0, .map (some m)] 51] [hs : BkC w g [.string s] 9] : Calls Tryz.prog 24 #[.pointer (some ⟨h, 0, none⟩), .slice (some ⟨g, 0, none⟩) 1 1, .slice none 0 0] w fun e w' => e = .returned (.int .i64 (if fitL s.data.toList then 0 else 310)) ∧ Kp0 w w' := by
  have c0 := hh.out.cell (i := 0) rfl
  have FI := hid (fun W : World => hFit (w := W) hsz)
  clear hsz
  generalize fitL s.data.toList = b at *
  go_enter Tryz.func24, Tryz.ntmps24
  go_wp2_with (go_at_call 49; (with_reducible refine Calls.mono (concatF (s := s) (Nat.le_refl 1)) ?_); rintro e wc ⟨v, rfl, ho, kb⟩; obtain ⟨g2, cap2, rfl, c2⟩ := ox_one ho; have kb0 := below_low kb (show w.heap.size ≤ _ by simp); clear ho)
  go_loopw [23] (fun s23 wx => ∃ j : Int, s23 = .int .i64 j ∧ (j = 0 ∨ j = 1 ∧ b = true) ∧ wc = wx) (fun s23 _ => 1 - (intOf s23).toNat)
  case atStart => exact ⟨0, rfl, .inl rfl, rfl⟩
  case round =>
    obtain ⟨j, rfl, hj, rfl⟩ := hrel
    have hKK : Kp0 w wc := ⟨Below.trans Gr.out kb0⟩
    rcases hj with rfl | ⟨rfl, rfl⟩
    · cases b
      · go_wp2_with (go_at_call 50; (with_reducible refine Calls.mono (FI.out _) ?_); rintro e wd ⟨rfl, hw⟩; obtain rfl := hw.symm)
        go_ret
        exact ⟨rfl, hKK⟩
      · go_wp2_with (go_at_call 50; (with_reducible refine Calls.mono (FI.out _) ?_); rintro e wd ⟨rfl, hw⟩; obtain rfl := hw.symm)
        go_round
        case rel => exact ⟨1, by first | rfl | go_num, .inr ⟨rfl, by first | rfl | trivial⟩, by first | rfl | trivial⟩
        case measure => simp [intOf]
    · go_wp2_with fail
      go_ret
      exact ⟨rfl, hKK⟩
set_option synthInstance.maxHeartbeats 2000000 in
set_option synthInstance.maxSize 100000 in
set_option maxRecDepth 100000 in
set_option maxHeartbeats 16000000 in
theorem hKnownB {w : World} {h m g : Nat} {s : ByteArray} (hsz : s.size ≤ 70000) [hh : BkC w h [.bool true, .int .i32 0, .int .u32 0, .map (some m)] 51] [hs : BkC w g [.string s] 9] : Calls Tryz.prog 24 #[.pointer (some ⟨h, 0, none⟩), .slice none 0 0, .slice (some ⟨g, 0, none⟩) 1 1] w fun e w' => e = .returned (.int .i64 (if fitL s.data.toList then 0 else 310)) ∧ Kp0 w w' := by
  have c0 := hh.out.cell (i := 0) rfl
  have FI := hid (fun W : World => hFit (w := W) hsz)
  clear hsz
  generalize fitL s.data.toList = b at *
  go_enter Tryz.func24, Tryz.ntmps24
  go_wp2_with (go_at_call 49; (with_reducible refine Calls.mono (concatB (s := s) (Nat.le_refl 1)) ?_); rintro e wc ⟨v, rfl, ho, kb⟩; obtain ⟨g2, cap2, rfl, c2⟩ := ox_one ho; have kb0 := below_low kb (show w.heap.size ≤ _ by simp); clear ho)
  go_loopw [23] (fun s23 wx => ∃ j : Int, s23 = .int .i64 j ∧ (j = 0 ∨ j = 1 ∧ b = true) ∧ wc = wx) (fun s23 _ => 1 - (intOf s23).toNat)
  case atStart => exact ⟨0, rfl, .inl rfl, rfl⟩
  case round =>
    obtain ⟨j, rfl, hj, rfl⟩ := hrel
    have hKK : Kp0 w wc := ⟨Below.trans Gr.out kb0⟩
    rcases hj with rfl | ⟨rfl, rfl⟩
    · cases b
      · go_wp2_with (go_at_call 50; (with_reducible refine Calls.mono (FI.out _) ?_); rintro e wd ⟨rfl, hw⟩; obtain rfl := hw.symm)
        go_ret
        exact ⟨rfl, hKK⟩
      · go_wp2_with (go_at_call 50; (with_reducible refine Calls.mono (FI.out _) ?_); rintro e wd ⟨rfl, hw⟩; obtain rfl := hw.symm)
        go_round
        case rel => exact ⟨1, by first | rfl | go_num, .inr ⟨rfl, by first | rfl | trivial⟩, by first | rfl | trivial⟩
        case measure => simp [intOf]
    · go_wp2_with fail
      go_ret
      exact ⟨rfl, hKK⟩
end
section
open Go.RowKit
set_option synthInstance.maxHeartbeats 2000000 in
set_option synthInstance.maxSize 100000 in
set_option maxRecDepth 100000 in
set_option maxHeartbeats 16000000 in
theorem hPut1 {w : World} {p g cap : Nat} {s : Nat × Nat} [hp : BkC w p [.slice (some ⟨g, 0, none⟩) 1 cap] 29] [hs : FsC w g s] [ok : OkS s] : Calls Tryz.prog 20 #[.slice none 0 0, .pointer (some ⟨p, 0, none⟩)] w fun e w' => ∃ g' cap', e = .returned (.tuple #[.agg #[.slice (some ⟨g', 0, none⟩) 1 cap'], .int .i64 0]) ∧ FsC w' g' s ∧ Kp0 w w' ∧ UpW w g' := by
  have c0 := hp.out.cell (i := 0) rfl
  go_enter Tryz.func20, Tryz.ntmps20
  go_wp2_with fail
  go_region_with (first | (go_at_call 21; (with_reducible refine Calls.mono (hTwin (s := s)) ?_); rintro e wc ⟨g1, cap1, rfl, _, _, _⟩) | (go_at_call 22; (with_reducible refine Calls.mono (hCheck (s := s)) ?_); rintro e wc ⟨rfl, _⟩))
  all_goals
    go_wp2_with fail
    refine ret_cell_tmp rfl rfl rfl (by rfl) (by rfl) (by rfl) ?_
    exact ⟨_, _, rfl, inferInstance, ⟨Gr.out⟩, ⟨Up.out⟩⟩
end
section
open Go.RowKit
open Go.Maps Go.ChangeMaps
/-- How a pointer in the map reads: the number of its block. -/
def Rp : Value → Option (DataW Unit × List MemPlace)
  | .pointer none => some (.lit (.int .i64 (-1)), [])
  | .pointer (some ⟨b, 0, none⟩) => some (.lit (.int .i64 b), [])
  | _ => none
theorem rp_inv {v : Value} {b : Nat} {ps : List MemPlace} (h : Rp v = some (.lit (.int .i64 b), ps)) : v = .pointer (some ⟨b, 0, none⟩) := by
  unfold Rp at h
  split at h
  · simp only [Option.some.injEq, Prod.mk.injEq, DataW.lit.injEq, Lit.int.injEq, true_and] at h
    omega
  · simp only [Option.some.injEq, Prod.mk.injEq, DataW.lit.injEq, Lit.int.injEq, true_and] at h
    rw [show _ = b from Int.ofNat.inj h.1]
  · cases h
/-- A house's map: its names and what lies behind each. -/
structure Mp (w : World) (m n : Nat) (D : DataW Unit) (F : List UInt8 → Option (Nat × Nat)) : Prop where
  own : w.ownsMap Tryz.prog 9 Rp m n D
  has : ∀ k, has D (.string k) = (F k).isSome
  lies : ∀ k s, F k = some s → ∃ (b g cap : Nat), D.atKey (.string k) (.lit (.int .i64 (-1))) = .lit (.int .i64 b) ∧ Bk w b [.slice (some ⟨g, 0, none⟩) 1 cap] 29 ∧ Fs w g s
theorem und9z : Tryz.prog.underlying 9 = some .string := by kernel_rfl
theorem und49z : Tryz.prog.underlying 49 = some (.map 9 79) := by kernel_rfl
theorem keyed9 : Keyed Tryz.prog 9 := string_keyed und9z
theorem Mp.heap {w : World} {m n : Nat} {D : DataW Unit} {F : List UInt8 → Option (Nat × Nat)} (h : Mp w m n D F) : ∃ es c, w.heap[m]? = some (.map es c) := by
  obtain ⟨es, c, h, -⟩ := h.own
  exact ⟨es, c, h⟩
theorem Mp.keep {w w' : World} {m n : Nat} {D : DataW Unit} {F : List UInt8 → Option (Nat × Nat)} {S : List Nat} (h : Mp w m n D F) (k : Keeps w.heap.size S w w') (hm : m ∉ S) (hS : ∀ j ∈ S, ∀ (C : Array Value) (T : Nat), w.heap[j]? = some (.cells C T (0, 0)) → T ≠ 29 ∧ T ≠ 38) : Mp w' m n D F := by
  refine ⟨?_, h.has, fun q s hq => ?_⟩
  · obtain ⟨es, c, h1, h2⟩ := h.own
    exact ⟨es, c, (k.block m (lt_of_block h1) hm).trans h1, h2⟩
  · obtain ⟨b, g, cap, h1, h2, h3⟩ := h.lies q s hq
    refine ⟨b, g, cap, h1, (k.block b h2.lt (fun hb => (hS b hb _ _ h2).1 rfl)).trans h2, ?_⟩
    obtain ⟨C, h4, h5⟩ := h3
    exact ⟨C, (k.block g (lt_of_block h4) (fun hb => (hS g hb _ _ h4).2 rfl)).trans h4, h5⟩
theorem Mp.below {w w' : World} {m n : Nat} {D : DataW Unit} {F : List UInt8 → Option (Nat × Nat)} (h : Mp w m n D F) (k : Below w.heap.size w w') : Mp w' m n D F :=
  h.keep (S := []) (Keeps.of_below k) (by simp) (fun j hj => by cases hj)
/-- The lock's cell turns. -/
theorem Mp.lock {w : World} {m n : Nat} {D : DataW Unit} {F : List UInt8 → Option (Nat × Nat)} {a : Nat} {L : List Value} (h : Mp w m n D F) (hh : Bk w a L 51) (i : Nat) (v : Value) : Mp (w.setCell ⟨a, i, none⟩ v) m n D F := by
  obtain ⟨es, c, hm⟩ := h.heap
  refine h.keep (S := [a]) ((Keeps.refl _ _ _).set (Or.inl (List.mem_singleton.2 rfl)) i v) (fun e => ?_) (fun j hj C T hT => ?_)
  · rw [List.mem_singleton] at e
    subst e
    rw [hh] at hm
    cases hm
  · rw [List.mem_singleton] at hj
    subst hj
    rw [hh] at hT
    simp only [Option.some.injEq, Obj.cells.injEq] at hT
    rw [← hT.2.1]
    decide
theorem turned_keeps {w w1 : World} {m B : Nat} (h : w.mapTurned w1 m) : Keeps B [m] w w1 := by
  obtain ⟨es, c, es', c', hb, rfl⟩ := h
  exact ⟨rfl, rfl, rfl, by simp [setBlock], fun i _ hi => heap_setBlock_other hb _ (fun e => hi (by rw [e]; exact List.mem_singleton.2 rfl))⟩
/-- A name is put. -/
theorem Mp.put {w w1 : World} {m n : Nat} {D : DataW Unit} {F : List UInt8 → Option (Nat × Nat)} (h : Mp w m n D F) {k : List UInt8} {b g cap : Nat} {s : Nat × Nat} (hb : Bk w b [.slice (some ⟨g, 0, none⟩) 1 cap] 29) (hg : Fs w g s)
    (ho : w1.ownsMap Tryz.prog 9 Rp m (n + 1) (D.put (.string k) (.lit (.int .i64 b)))) (ht : w.mapTurned w1 m) : Mp w1 m (n + 1) (D.put (.string k) (.lit (.int .i64 b))) (fun q => if q = k then some s else F q) := by
  have kp := turned_keeps (B := w.heap.size) ht
  obtain ⟨es, c, hm⟩ := h.heap
  have ne : ∀ {j : Nat} {C : Array Value} {T : Nat} {fr : Nat × Nat}, w.heap[j]? = some (.cells C T fr) → w1.heap[j]? = some (.cells C T fr) := by
    intro j C T fr hj
    refine (kp.block j (lt_of_block hj) (fun e => ?_)).trans hj
    rw [List.mem_singleton] at e
    subst e
    rw [hj] at hm
    cases hm
  have hI := h.own.isMap
  refine ⟨ho, fun q => ?_, fun q r hq => ?_⟩
  · by_cases e : q = k
    · subst e
      rw [has_put_same hI (by first | trivial | exact ⟨_, rfl⟩ | simp [WideAt.IsKeyLit])]
      simp
    · rw [has_put_other (by simpa using e), h.has, if_neg e]
  · by_cases e : q = k
    · subst e
      rw [if_pos rfl] at hq
      obtain rfl := Option.some.inj hq
      refine ⟨b, g, cap, ?_, ne hb, ?_⟩
      · exact atKey_put_same hI (by first | trivial | exact ⟨_, rfl⟩ | simp [WideAt.IsKeyLit]) _ _
      · obtain ⟨C, h4, h5⟩ := hg
        exact ⟨C, ne h4, h5⟩
    · rw [if_neg e] at hq
      obtain ⟨b', g', cap', h1, h2, h3⟩ := h.lies q r hq
      refine ⟨b', g', cap', ?_, ne h2, ?_⟩
      · rw [atKey_put_other (by simpa using e)]; exact h1
      · obtain ⟨C, h4, h5⟩ := h3
        exact ⟨C, ne h4, h5⟩
end
section
open Go.RowKit
theorem zero79 (w : World) : (zeroValue 79).run Tryz.prog w = .ok (.pointer none) w := by kernel_rfl
/-- What the house's own calls turn. -/
theorem house_back {w : World} {h m : Nat} (hh : Bk w h [.bool true, .int .i32 0, .int .u32 0, .map (some m)] 51) : (w.setCell ⟨h, 1, none⟩ (.int .i32 0)).cell? ⟨h, 0, none⟩ = some (.bool true) := by
  exact (hh.set 1 (.int .i32 0)).cell rfl
set_option synthInstance.maxHeartbeats 2000000 in
set_option synthInstance.maxSize 100000 in
set_option maxRecDepth 100000 in
set_option maxHeartbeats 16000000 in
theorem hChange {w : World} {h m n p g cap : Nat} {nm : ByteArray} {s : Nat × Nat} {D : DataW Unit} {F : List UInt8 → Option (Nat × Nat)} (hsz : Hid (nm.size ≤ 70000)) (hfit : Hid (fitL nm.data.toList = true))
    [hh : BkC w h [.bool true, .int .i32 0, .int .u32 0, .map (some m)] 51] (hm : Mp w m n D F) (hn : Hid (n < 1000000)) (hroom : (F nm.data.toList).isSome = true ∨ Maps.size D < 64) [hp : BkC w p [.slice (some ⟨g, 0, none⟩) 1 cap] 29] [hs : FsC w g s] [ok : OkS s] :
    Calls Tryz.prog 19 #[.pointer (some ⟨h, 0, none⟩), .string nm, .slice none 0 0, .func (.func 20) #[] #[.pointer (some ⟨p, 0, none⟩)]] w fun e w' => e = .returned (.int .i64 0) ∧ ∃ b : Nat, BkC w' h [.bool true, .int .i32 0, .int .u32 0, .map (some m)] 51 ∧ Mp w' m (n + 1) (D.put (.string nm.data.toList) (.lit (.int .i64 b))) (fun q => if q = nm.data.toList then some s else F q) ∧ KpS w [h, m] w' := by
  have hkey : keyOf Tryz.prog 9 (.string nm) = some (.string nm.data.toList) := Go.WideMaps.keyOf_string_mk und9z (by have := hsz.out; unfold maxLen; omega)
  haveI nhm : NeN h m := ⟨by
    obtain ⟨es, c, hmm⟩ := hm.heap
    rintro rfl
    rw [hh.out] at hmm
    cases hmm⟩
  haveI nph : NeN p h := ⟨by
    rintro rfl
    have a := hp.out
    rw [Bk, hh.out] at a
    simp at a⟩
  haveI ngh : NeN g h := ⟨by
    rintro rfl
    obtain ⟨C, a, -⟩ := hs.out
    rw [hh.out] at a
    simp at a⟩
  obtain ⟨ii, hii⟩ : ∃ ii, ii = (F nm.data.toList).isSome := ⟨_, rfl⟩
  rw [← hii] at hroom
  have hII := hid hii
  clear hii
  go_enter_defers Tryz.func19, Tryz.ntmps19
  go_wp2_with (first | (go_at_call 24; (with_reducible refine Calls.mono (hKnownF (s := nm) hsz.out (m := m) (h := h)) ?_); rintro e wk ⟨rfl, hk0⟩; rw [if_pos hfit.out]; have ck : wk.cell? ⟨h, 1, none⟩ = some (.int .i32 0) := (inferInstance : BkC wk h _ _).out.cell rfl; have ck3 : wk.cell? ⟨h, 3, none⟩ = some (.map (some m)) := (inferInstance : BkC wk h _ _).out.cell rfl; have fk := (inferInstance : BkC wk h _ _).out.free 1; have hm1 : Hid (Mp wk m n D F) := hid (hm.below Gr.out)) | (go_at_call 25; (with_reducible refine Calls.mono (Go.MuLone.lock_free Tryz.muLib ⟨h, 1, none⟩ wk ck fk) ?_); rintro e wl ⟨rfl, rfl⟩))
  go_loopw [10, 36] (fun s10 s36 wx => s10 = .slice none 0 0 ∧ s36 = .int .i64 0 ∧ (wk.setCell ⟨h, 1, none⟩ (.int .i32 1)) = wx) (fun _ _ _ => 0)
  case atStart => exact ⟨rfl, rfl, rfl⟩
  case round =>
    obtain ⟨rfl, rfl, rfl⟩ := hrel
    cases ii
    · have hlt : Maps.size D < 64 := hroom.resolve_left (by simp)
      have hge : ¬ ((64 : Int) ≤ (Maps.size D : Int)) := by omega
      have hge2 : ¬ ((Maps.size D : Int) ≥ 64) := by omega
      go_wp2_with (first | (go_at_call 20; go_loud (with_reducible refine Calls.mono (hPut1 (s := s)) ?_); rintro e wp ⟨g', cap', rfl, hfs, hkp, hup⟩; go_loud (have hm3 : Hid (Mp (wp.alloc (.cells #[.slice (some ⟨g', 0, none⟩) 1 cap'] 29)) m n D F) := hid ((hm1.out.lock (inferInstance : BkC wk h _ 51).out 1 (.int .i32 1)).below Gr.out))) | (at_lookup; refine wpList_lookup_own_ok _ rfl _ _ 49 rfl 9 79 keyed9 und49z Rp (zero79 _) (.lit (.int .i64 (-1))) [] rfl m n D rfl hm3.out.own _ _ rfl hkey ?_; intro vv ps hv; clear hv; rw [hm3.out.has, ← hII.out]) | (at_mapUpdate; refine wpList_mapUpdate_in _ rfl _ _ _ 49 rfl 9 79 keyed9 und49z Rp m n D rfl hm3.out.own (by have := hn.out; unfold maxLen; omega) _ _ _ rfl rfl hkey _ [] rfl ?_; intro w1 ho1 ht1; haveI hk1 : KpS (wp.alloc (.cells #[.slice (some ⟨g', 0, none⟩) 1 cap'] 29)) [m] w1 := ⟨turned_keeps ht1⟩))
      rw [hm3.out.own.len und49z 3]
      go_wp2_with (first | (at_mapUpdate; refine wpList_mapUpdate_in _ rfl _ _ _ 49 rfl 9 79 keyed9 und49z Rp m n D rfl hm3.out.own (by have := hn.out; unfold maxLen; omega) _ _ _ rfl rfl hkey _ [] rfl ?_; intro w1 ho1 ht1; haveI hk1 : KpS (wp.alloc (.cells #[.slice (some ⟨g', 0, none⟩) 1 cap'] 29)) [m] w1 := ⟨turned_keeps ht1⟩))
      refine leaves_cons (f := 26) (args := #[.pointer (some ⟨h, 1, none⟩)]) (by simp) (by simp [go_sem]) ?_
      refine (Go.MuLone.unlock_deferred Tryz.muLib ⟨h, 1, none⟩ .returning _ ?_ ?_).mono ?_
      · exact (inferInstance : BkC w1 h _ 51).out.cell rfl
      · exact (inferInstance : BkC w1 h _ 51).out.free 1
      rintro e u' w'' ⟨rfl, rfl, rfl⟩
      refine ⟨_, results_tmp rfl _ _ _, rfl, wp.heap.size, inferInstance, (hm3.out.put (inferInstance : BkC _ wp.heap.size _ 29).out (inferInstance : FsC _ g' s).out ho1 ht1).lock (inferInstance : BkC w1 h _ 51).out 1 (.int .i32 0), ⟨GS.out⟩⟩
    · go_wp2_with (first | (go_at_call 20; go_loud (with_reducible refine Calls.mono (hPut1 (s := s)) ?_); rintro e wp ⟨g', cap', rfl, hfs, hkp, hup⟩; go_loud (have hm3 : Hid (Mp (wp.alloc (.cells #[.slice (some ⟨g', 0, none⟩) 1 cap'] 29)) m n D F) := hid ((hm1.out.lock (inferInstance : BkC wk h _ 51).out 1 (.int .i32 1)).below Gr.out))) | (at_lookup; refine wpList_lookup_own_ok _ rfl _ _ 49 rfl 9 79 keyed9 und49z Rp (zero79 _) (.lit (.int .i64 (-1))) [] rfl m n D rfl hm3.out.own _ _ rfl hkey ?_; intro vv ps hv; clear hv; rw [hm3.out.has, ← hII.out]) | (at_mapUpdate; refine wpList_mapUpdate_in _ rfl _ _ _ 49 rfl 9 79 keyed9 und49z Rp m n D rfl hm3.out.own (by have := hn.out; unfold maxLen; omega) _ _ _ rfl rfl hkey _ [] rfl ?_; intro w1 ho1 ht1; haveI hk1 : KpS (wp.alloc (.cells #[.slice (some ⟨g', 0, none⟩) 1 cap'] 29)) [m] w1 := ⟨turned_keeps ht1⟩))
      refine leaves_cons (f := 26) (args := #[.pointer (some ⟨h, 1, none⟩)]) (by simp) (by simp [go_sem]) ?_
      refine (Go.MuLone.unlock_deferred Tryz.muLib ⟨h, 1, none⟩ .returning _ ?_ ?_).mono ?_
      · exact (inferInstance : BkC w1 h _ 51).out.cell rfl
      · exact (inferInstance : BkC w1 h _ 51).out.free 1
      rintro e u' w'' ⟨rfl, rfl, rfl⟩
      refine ⟨_, results_tmp rfl _ _ _, rfl, wp.heap.size, inferInstance, (hm3.out.put (inferInstance : BkC _ wp.heap.size _ 29).out (inferInstance : FsC _ g' s).out ho1 ht1).lock (inferInstance : BkC w1 h _ 51).out 1 (.int .i32 0), ⟨GS.out⟩⟩
end
section
open Go.RowKit
set_option synthInstance.maxHeartbeats 2000000 in
set_option synthInstance.maxSize 100000 in
set_option maxRecDepth 100000 in
set_option maxHeartbeats 16000000 in
theorem hPut {w : World} {h m n g cap : Nat} {nm : ByteArray} {s : Nat × Nat} {D : DataW Unit} {F : List UInt8 → Option (Nat × Nat)} (hsz : nm.size ≤ 70000) (hfit : fitL nm.data.toList = true)
    [hh : BkC w h [.bool true, .int .i32 0, .int .u32 0, .map (some m)] 51] (hm : Mp w m n D F) (hn : n < 1000000) (hroom : (F nm.data.toList).isSome = true ∨ Maps.size D < 64) [hs : FsC w g s] [ok : OkS s] :
    Calls Tryz.prog 8 #[.pointer (some ⟨h, 0, none⟩), .string nm, .agg #[.slice (some ⟨g, 0, none⟩) 1 cap]] w fun e w' => e = .returned (.int .i64 0) ∧ ∃ b : Nat, BkC w' h [.bool true, .int .i32 0, .int .u32 0, .map (some m)] 51 ∧ Mp w' m (n + 1) (D.put (.string nm.data.toList) (.lit (.int .i64 b))) (fun q => if q = nm.data.toList then some s else F q) ∧ KpS w [h, m] w' := by
  have hmf : ∀ (fn : Fn) (first cap : Array Value) (w : World), (Instr.makeFunc fn first cap).run Tryz.prog w = .ok (.func fn first cap) w := fun _ _ _ _ => rfl
  have hm' := hid (hm.below ((Gr.out : Below w.heap.size w (w.alloc (.cells #[.slice (some ⟨g, 0, none⟩) 1 cap] 29)))))
  have HS := hid hsz
  have HF := hid hfit
  have HN := hid hn
  have HR := hid hroom
  have ltm : Has w m := ⟨by obtain ⟨es, c, e⟩ := hm.heap; exact lt_of_block e⟩
  clear hsz hfit hn hroom hm
  go_enter Tryz.func8, Tryz.ntmps8
  go_wp2_with (go_at_call 19; (with_reducible refine Calls.mono (hChange (s := s) HS HF hm'.out HN HR.out) ?_); rintro e wc ⟨rfl, b, hb1, hb2, hb3⟩)
  go_ret
  exact ⟨rfl, b, hb1, hb2, ⟨GS.out⟩⟩
end
section
open Go.RowKit
theorem keeps_same {w w' : World} {h : Nat} {L : List Value} {T : Nat} (k : Keeps w.heap.size [h] w w') (a : Bk w h L T) (b : Bk w' h L T) : Below w.heap.size w w' :=
  ⟨k.os, k.tape, k.output, k.size, fun i hi => by
    by_cases e : i = h
    · subst e
      exact Eq.trans b a.symm
    · exact k.block i hi (by simpa using e)⟩
theorem res_cell_tmp {P : Program} {fn : Func} {tmps : Array Value} {w : World} {p u : Tmp} {ty : TypeId} {g : Nat} {L : List Value} {T : Nat} {d : TypeDesc} (h : fn.results = #[.cell p ty, .tmp u]) (hp : tmps.getD p undef = .pointer (some ⟨g, 0, none⟩)) [hb : BkC w g L T] (hu : P.underlying ty = some d) (hd : (match d with | .struct _ | .array _ _ => true | _ => false) = true) (hi : (P.info? ty).map (·.size) = some L.toArray.size) :
    (results fn tmps).run P w = .ok (.tuple #[.agg L.toArray, tmps.getD u undef]) w := by
  rw [results_cell_tmp h, hp]
  simp [asAddr, Result.andThen, run_loadVar_row w g T ty L.toArray (0, 0) d hb.out hu hd hi]
set_option synthInstance.maxHeartbeats 2000000 in
set_option synthInstance.maxSize 100000 in
set_option maxRecDepth 100000 in
set_option maxHeartbeats 16000000 in
theorem hget0 {w : World} {h m n : Nat} {nm : ByteArray} {D : DataW Unit} {F : List UInt8 → Option (Nat × Nat)} (hsz : Hid (nm.size ≤ 70000)) (hfit : Hid (fitL nm.data.toList = true)) [hh : BkC w h [.bool true, .int .i32 0, .int .u32 0, .map (some m)] 51] (hm : Mp w m n D F) (hF : Hid (F nm.data.toList = none)) : Calls Tryz.prog 23 #[.pointer (some ⟨h, 0, none⟩), .string nm] w fun e w' => e = .returned (.tuple #[.agg #[.slice none 0 0], .int .i64 9]) ∧ Kp0 w w' := by
  have hkey : keyOf Tryz.prog 9 (.string nm) = some (.string nm.data.toList) := Go.WideMaps.keyOf_string_mk und9z (by have := hsz.out; unfold maxLen; omega)
  haveI nhm : NeN h m := ⟨by
    obtain ⟨es, c, hmm⟩ := hm.heap
    rintro rfl
    rw [hh.out] at hmm
    cases hmm⟩
  go_enter_defers Tryz.func23, Tryz.ntmps23
  go_wp2_with (first | (go_at_call 24; (with_reducible refine Calls.mono (hKnownB (s := nm) hsz.out (m := m) (h := h)) ?_); rintro e wk ⟨rfl, hk0⟩; rw [if_pos hfit.out]; have ck : wk.cell? ⟨h, 1, none⟩ = some (.int .i32 0) := (inferInstance : BkC wk h _ _).out.cell rfl; have ck3 : wk.cell? ⟨h, 3, none⟩ = some (.map (some m)) := (inferInstance : BkC wk h _ _).out.cell rfl; have fk := (inferInstance : BkC wk h _ _).out.free 1; have hm1 : Hid (Mp wk m n D F) := hid (hm.below Gr.out); have hm2 : Hid (Mp (wk.setCell ⟨h, 1, none⟩ (.int .i32 1)) m n D F) := hid (hm1.out.lock (inferInstance : BkC wk h _ 51).out 1 (.int .i32 1))) | (go_at_call 25; (with_reducible refine Calls.mono (Go.MuLone.lock_free Tryz.muLib ⟨h, 1, none⟩ wk ck fk) ?_); rintro e wl ⟨rfl, rfl⟩) | (at_lookup; refine wpList_lookup_own_ok _ rfl _ _ 49 rfl 9 79 keyed9 und49z Rp (zero79 _) (.lit (.int .i64 (-1))) [] rfl m n D rfl hm2.out.own _ _ rfl hkey ?_; intro vv ps hv; rw [hm2.out.has, hF.out]))
  refine leaves_cons (f := 26) (args := #[.pointer (some ⟨h, 1, none⟩)]) (by simp) (by simp [go_sem]) ?_
  refine (Go.MuLone.unlock_deferred Tryz.muLib ⟨h, 1, none⟩ .returning _ ?_ ?_).mono ?_
  · exact (inferInstance : BkC _ h _ 51).out.cell rfl
  · exact (inferInstance : BkC _ h _ 51).out.free 1
  rintro e u' w'' ⟨rfl, rfl, rfl⟩
  exact ⟨_, res_cell_tmp rfl rfl (by rfl) (by rfl) (by rfl), rfl, ⟨keeps_same (h := h) (L := [.bool true, .int .i32 0, .int .u32 0, .map (some m)]) (T := 51) GS.out hh.out (inferInstance : BkC _ h _ 51).out⟩⟩
set_option synthInstance.maxHeartbeats 2000000 in
set_option synthInstance.maxSize 100000 in
set_option maxRecDepth 100000 in
set_option maxHeartbeats 16000000 in
theorem hgetS {w : World} {h m n : Nat} {nm : ByteArray} {D : DataW Unit} {F : List UInt8 → Option (Nat × Nat)} (hsz : Hid (nm.size ≤ 70000)) (hfit : Hid (fitL nm.data.toList = true)) [hh : BkC w h [.bool true, .int .i32 0, .int .u32 0, .map (some m)] 51] (hm : Mp w m n D F) {s : Nat × Nat} (hF : Hid (F nm.data.toList = some s)) : Calls Tryz.prog 23 #[.pointer (some ⟨h, 0, none⟩), .string nm] w fun e w' => ∃ g cap, e = .returned (.tuple #[.agg #[.slice (some ⟨g, 0, none⟩) 1 cap], .int .i64 0]) ∧ FsC w' g s ∧ Kp0 w w' ∧ UpW w g := by
  have hkey : keyOf Tryz.prog 9 (.string nm) = some (.string nm.data.toList) := Go.WideMaps.keyOf_string_mk und9z (by have := hsz.out; unfold maxLen; omega)
  haveI nhm : NeN h m := ⟨by
    obtain ⟨es, c, hmm⟩ := hm.heap
    rintro rfl
    rw [hh.out] at hmm
    cases hmm⟩
  go_enter_defers Tryz.func23, Tryz.ntmps23
  go_wp2_with (first | (go_at_call 24; (with_reducible refine Calls.mono (hKnownB (s := nm) hsz.out (m := m) (h := h)) ?_); rintro e wk ⟨rfl, hk0⟩; rw [if_pos hfit.out]; have ck : wk.cell? ⟨h, 1, none⟩ = some (.int .i32 0) := (inferInstance : BkC wk h _ _).out.cell rfl; have ck3 : wk.cell? ⟨h, 3, none⟩ = some (.map (some m)) := (inferInstance : BkC wk h _ _).out.cell rfl; have fk := (inferInstance : BkC wk h _ _).out.free 1; have hm1 : Hid (Mp wk m n D F) := hid (hm.below Gr.out); have hm2 : Hid (Mp (wk.setCell ⟨h, 1, none⟩ (.int .i32 1)) m n D F) := hid (hm1.out.lock (inferInstance : BkC wk h _ 51).out 1 (.int .i32 1))) | (go_at_call 25; (with_reducible refine Calls.mono (Go.MuLone.lock_free Tryz.muLib ⟨h, 1, none⟩ wk ck fk) ?_); rintro e wl ⟨rfl, rfl⟩) | (at_lookup; refine wpList_lookup_own_ok _ rfl _ _ 49 rfl 9 79 keyed9 und49z Rp (zero79 _) (.lit (.int .i64 (-1))) [] rfl m n D rfl hm2.out.own _ _ rfl hkey ?_; intro vv ps hv; rw [hm2.out.has, hF.out]; obtain ⟨b, g, cap, ha, hbk, hfs⟩ := hm2.out.lies _ _ hF.out; rw [ha] at hv; obtain rfl := rp_inv hv; clear hv ha; haveI ib : BkC (wk.setCell ⟨h, 1, none⟩ (.int .i32 1)) b _ 29 := ⟨hbk⟩; haveI ig : FsC (wk.setCell ⟨h, 1, none⟩ (.int .i32 1)) g s := ⟨hfs⟩; have cb := hbk.cell (i := 0) rfl; clear hbk hfs) | (go_at_call 21; (with_reducible refine Calls.mono (hTwin (s := s)) ?_); rintro e wt ⟨g1, cap1, rfl, ht1, ht2, ht3⟩))
  refine leaves_cons (f := 26) (args := #[.pointer (some ⟨h, 1, none⟩)]) (by simp) (by simp [go_sem]) ?_
  refine (Go.MuLone.unlock_deferred Tryz.muLib ⟨h, 1, none⟩ .returning _ ?_ ?_).mono ?_
  · exact (inferInstance : BkC _ h _ 51).out.cell rfl
  · exact (inferInstance : BkC _ h _ 51).out.free 1
  rintro e u' w'' ⟨rfl, rfl, rfl⟩
  exact ⟨_, res_cell_tmp rfl rfl (by rfl) (by rfl) (by rfl), _, _, rfl, inferInstance, ⟨keeps_same (h := h) (L := [.bool true, .int .i32 0, .int .u32 0, .map (some m)]) (T := 51) GS.out hh.out (inferInstance : BkC _ h _ 51).out⟩, ⟨Nat.le_trans (GS.out (v := w) (S := [h]) (W := wk.setCell ⟨h, 1, none⟩ (.int .i32 1))).size ht3.out⟩⟩
end
section
open Go.RowKit
set_option synthInstance.maxHeartbeats 2000000 in
set_option synthInstance.maxSize 100000 in
set_option maxRecDepth 100000 in
set_option maxHeartbeats 16000000 in
theorem hGet0 {w : World} {h m n : Nat} {nm : ByteArray} {D : DataW Unit} {F : List UInt8 → Option (Nat × Nat)} (hsz : Hid (nm.size ≤ 70000)) (hfit : Hid (fitL nm.data.toList = true)) [hh : BkC w h [.bool true, .int .i32 0, .int .u32 0, .map (some m)] 51] (hm : Mp w m n D F) (hF : Hid (F nm.data.toList = none)) : Calls Tryz.prog 9 #[.pointer (some ⟨h, 0, none⟩), .string nm] w fun e w' => e = .returned (.tuple #[.agg #[.slice none 0 0], .int .i64 9]) ∧ Kp0 w w' := by
  have hm' := hid (hm.below ((Gr.out : Below w.heap.size w (w.alloc (.cells #[.slice none 0 0] 29)))))
  clear hm
  go_enter Tryz.func9, Tryz.ntmps9
  go_wp2_with (go_at_call 23; (with_reducible refine Calls.mono (hget0 hsz hfit hm'.out hF) ?_); rintro e wc ⟨rfl, hk⟩)
  refine ret_cell_tmp rfl rfl rfl (by rfl) (by rfl) (by rfl) ?_
  exact ⟨rfl, ⟨Gr.out⟩⟩
set_option synthInstance.maxHeartbeats 2000000 in
set_option synthInstance.maxSize 100000 in
set_option maxRecDepth 100000 in
set_option maxHeartbeats 16000000 in
theorem hGetS {w : World} {h m n : Nat} {nm : ByteArray} {D : DataW Unit} {F : List UInt8 → Option (Nat × Nat)} (hsz : Hid (nm.size ≤ 70000)) (hfit : Hid (fitL nm.data.toList = true)) [hh : BkC w h [.bool true, .int .i32 0, .int .u32 0, .map (some m)] 51] (hm : Mp w m n D F) {s : Nat × Nat} (hF : Hid (F nm.data.toList = some s)) : Calls Tryz.prog 9 #[.pointer (some ⟨h, 0, none⟩), .string nm] w fun e w' => ∃ g cap, e = .returned (.tuple #[.agg #[.slice (some ⟨g, 0, none⟩) 1 cap], .int .i64 0]) ∧ FsC w' g s ∧ Kp0 w w' ∧ UpW w g := by
  have hm' := hid (hm.below ((Gr.out : Below w.heap.size w (w.alloc (.cells #[.slice none 0 0] 29)))))
  clear hm
  go_enter Tryz.func9, Tryz.ntmps9
  go_wp2_with (go_at_call 23; (with_reducible refine Calls.mono (hgetS hsz hfit hm'.out hF) ?_); rintro e wc ⟨g1, cap1, rfl, hk1, hk2, hk3⟩)
  refine ret_cell_tmp rfl rfl rfl (by rfl) (by rfl) (by rfl) ?_
  exact ⟨_, _, rfl, inferInstance, ⟨Gr.out⟩, ⟨Up.out⟩⟩
end
section
open Go.RowKit
open Go.Sort
set_option synthInstance.maxHeartbeats 2000000 in
set_option synthInstance.maxSize 100000 in
set_option maxRecDepth 100000 in
set_option maxHeartbeats 16000000 in
theorem hNames {w : World} {h m n : Nat} {D : DataW Unit} {F : List UInt8 → Option (Nat × Nat)} [hh : BkC w h [.bool true, .int .i32 0, .int .u32 0, .map (some m)] 51] (hm : Mp w m n D F) (hn : n < 1000000) : Calls Tryz.prog 10 #[.pointer (some ⟨h, 0, none⟩)] w fun e w' => ∃ (v : Value) (ss : List (List UInt8)) (B : Nat), e = .returned v ∧ ss.Perm (strKeys D) ∧ w'.ownsRow B 9 1 v ss.length ((ss.mergeSort (fun x y => decide (x ≤ y))).map encStr) ∧ Kp0 w w' := by
  have hz0 := hm.own.size_le
  have hz1 : Hid (Maps.size D ≤ maxLen) := hid (by unfold maxLen; omega)
  have hz2 : Hid (Maps.size D * 16 ≤ 140737488355328) := hid (by omega)
  clear hz0 hn
  haveI nhm : NeN h m := ⟨by
    obtain ⟨es, c, hmm⟩ := hm.heap
    rintro rfl
    rw [hh.out] at hmm
    cases hmm⟩
  go_enter_defers Tryz.func10, Tryz.ntmps10
  go_wp2_with (first | (go_at_call 24; (with_reducible refine Calls.mono (hKnownN (m := m) (h := h)) ?_); rintro e wk ⟨rfl, hk0⟩; have ck : wk.cell? ⟨h, 1, none⟩ = some (.int .i32 0) := (inferInstance : BkC wk h _ _).out.cell rfl; have ck3 : wk.cell? ⟨h, 3, none⟩ = some (.map (some m)) := (inferInstance : BkC wk h _ _).out.cell rfl; have fk := (inferInstance : BkC wk h _ _).out.free 1; have hm2 : Hid (Mp (wk.setCell ⟨h, 1, none⟩ (.int .i32 1)) m n D F) := hid ((hm.below Gr.out).lock (inferInstance : BkC wk h _ 51).out 1 (.int .i32 1))) | (go_at_call 25; (with_reducible refine Calls.mono (Go.MuLone.lock_free Tryz.muLib ⟨h, 1, none⟩ wk ck fk) ?_); rintro e wl ⟨rfl, rfl⟩) | (go_at_call 28; (with_reducible refine Calls.mono (callsIn_wide.1 (Tryz.maps_Keys_28 (some m) _)) ?_); rintro e wl ⟨rfl, rfl⟩) | (go_at_call 27; have hc := callsIn_wide.1 (Tryz.slices_Sorted_keys_27_28 m n D Rp (wk.setCell ⟨h, 1, none⟩ (.int .i32 1)) hm2.out.own hz1.out hz2.out); rw [World.size_setCell] at hc; go_loud (with_reducible refine Calls.mono hc ?_); clear hc; rintro e ws ⟨v, ss, rfl, hp1, hp2, hp3, hp4⟩; haveI hks : Kp0 ((wk.setCell ⟨h, 1, none⟩ (.int .i32 1)).alloc (.cells #[.map (some m)] 49)) ws := ⟨hp4⟩))
  refine leaves_cons (f := 26) (args := #[.pointer (some ⟨h, 1, none⟩)]) (by simp) (by simp [go_sem]) ?_
  refine (Go.MuLone.unlock_deferred Tryz.muLib ⟨h, 1, none⟩ .returning _ ?_ ?_).mono ?_
  · exact (inferInstance : BkC _ h _ 51).out.cell rfl
  · exact (inferInstance : BkC _ h _ 51).out.free 1
  rintro e u' w'' ⟨rfl, rfl, rfl⟩
  refine ⟨_, results_tmp rfl _ _ _, v, ss, ((wk.setCell ⟨h, 1, none⟩ (.int .i32 1)).alloc (.cells #[.map (some m)] 49)).heap.size, rfl, hp1, ?_, ⟨keeps_same (h := h) (L := [.bool true, .int .i32 0, .int .u32 0, .map (some m)]) (T := 51) GS.out hh.out (inferInstance : BkC _ h _ 51).out⟩⟩
  obtain ⟨q1, q2⟩ := hp2
  refine ⟨q1, ?_⟩
  rcases q2 with q | ⟨g, cap, cur, rfl, hb, hg, q⟩
  · exact .inl q
  · refine .inr ⟨g, cap, cur, rfl, hb, (block_ne _ _ _ _ _ (fun e => ?_)).trans hg, q⟩
    subst e
    have hw : g < ((wk.setCell ⟨g, 1, none⟩ (.int .i32 1)).alloc (.cells #[.map (some m)] 49)).heap.size := (inferInstance : Has _ g).lt
    omega
end
section
open Go.RowKit


/-! Sizes by the shape of a world: an order among sums that is read off their shape. -/
section
variable (w : World) (n i : Nat) [hn : Has w n]
end
/-- A reader of the text s: how far it is read, the place of the first wrong piece. -/
def Rd (w : World) (rb : Nat) (s : ByteArray) (i : Nat) (a : Int) : Prop := w.heap[rb]? = some (.cells #[.string s, .int .i64 i, .int .i64 a] 269 (0, 0))
theorem Rd.keep {w w' : World} {rb : Nat} {s : ByteArray} {i : Nat} {a : Int} {B : Nat} {S : List Nat} (h : Rd w rb s i a) (k : Keeps B S w w') (hB : rb < B) (hS : rb ∉ S) : Rd w' rb s i a := (k.block rb hB hS).trans h
theorem ok_any (rb : Nat) (s : ByteArray) (i : Nat) (a : Int) (w : World) (h : Rd w rb s i a) :
    Calls Tryz.prog 188 #[.pointer (some ⟨rb, 0, none⟩)] w fun e w' => e = .returned (.bool (decide (a < 0))) ∧ w = w' := by
  have c2 := cell_of_block h 2
  simp at c2
  clear h
  go_enter Tryz.func188, Tryz.ntmps188
  go_wp2
  go_ret
  exact ⟨rfl, rfl⟩
theorem wrong_any (rb : Nat) (s : ByteArray) (i : Nat) (a : Int) (p : Int) (w : World) (h : Rd w rb s i a) :
    Calls Tryz.prog 190 #[.pointer (some ⟨rb, 0, none⟩), .int .i64 p] w fun e w' => e = .returned (.tuple #[]) ∧ Rd w' rb s i (if a < 0 then p else a) ∧ Keeps w.heap.size [rb] w w' := by
  have c2 := cell_of_block h 2
  have f2 := free_of_block h 2
  simp at c2
  have H := hid h
  clear h
  by_cases ha : a < 0
  · rw [if_pos ha]
    have hd : decide (a < 0) = true := by simpa using ha
    go_enter Tryz.func190, Tryz.ntmps190
    go_wp2_with (go_at_call 188; ((with_reducible refine (ok_any rb s i a _ H.out).mono ?_); rintro e w' ⟨rfl, rfl⟩))
    go_end0
    exact ⟨rfl, set_of_block H.out 2 _, (Keeps.refl _ _ _).set (Or.inl (by simp)) _ _⟩
  · rw [if_neg ha]
    have hd : decide (a < 0) = false := by simpa using ha
    go_enter Tryz.func190, Tryz.ntmps190
    go_wp2_with (go_at_call 188; ((with_reducible refine (ok_any rb s i a _ H.out).mono ?_); rintro e w' ⟨rfl, rfl⟩))
    go_end0
    exact ⟨rfl, H.out, Keeps.refl _ _ _⟩
end
end Go.Proofs.YtmjpfoninpbgiaaGreatDoor
