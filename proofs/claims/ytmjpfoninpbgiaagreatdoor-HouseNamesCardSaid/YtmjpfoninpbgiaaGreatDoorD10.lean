/- Flows are put by bare names; a flow of too many elements is not. A whole number that a house's save has. A name that a house's save has. The examples' stream, read. Words, numbers and the name of the examples' save. The examples' flow, read. The end of the examples' save, read. What a crowd's house has. -/
import Derived.Test.YtmjpfoninpbgiaaGreatDoorD09
import Derived.Shelf.Strings.SlTrimAscii
set_option linter.unusedSimpArgs false
set_option linter.unusedVariables false
namespace Go.Proofs.YtmjpfoninpbgiaaGreatDoor
section
open Go.RowKit
open Go.Maps Go.ChangeMaps
set_option synthInstance.maxHeartbeats 2000000 in
set_option synthInstance.maxSize 100000 in
set_option maxRecDepth 100000 in
set_option maxHeartbeats 16000000 in
theorem hCloneB {w : World} {g cap : Nat} {L : List Value} [hb : BkC w g L 38] (hL : Hid (L.length = 257 * 4)) (hL1 : Hid (∀ u ∈ L, u.oneCell' = true)) : Calls Tryz.prog 47 #[.slice (some ⟨g, 0, none⟩) 257 cap] w fun e w' => ∃ g' cap', e = .returned (.slice (some ⟨g', 0, none⟩) 257 cap') ∧ Kp0 w w' := by
  have HS := hid hb.out
  go_enter Tryz.func47, Tryz.ntmps47
  go_wp2_with (at_builtin; refine app_m rfl _ _ rfl rfl w.heap.size ?_ own_none rfl (news := L) hL.out (fun j u hu => (HS.out.below Gr.out).cell hu) hL1.out (by decide) (by decide) ?_; (focus (rw [World.size_alloc]; exact Nat.le_succ _)); intro g' cap' n' wa hn' hf' hg' hbl; obtain rfl : n' = 257 := hn'; haveI ka : Kp0 w wa := ⟨hbl w (Nat.le_refl _) Gr.out⟩; clear hf' hbl hg')
  go_ret
  exact ⟨_, _, rfl, ⟨Gr.out⟩⟩
set_option synthInstance.maxHeartbeats 2000000 in
set_option synthInstance.maxSize 100000 in
set_option maxRecDepth 100000 in
set_option maxHeartbeats 16000000 in
theorem hTwinB {w : World} {g cap : Nat} {L : List Value} [hb : BkC w g L 38] (hL : Hid (L.length = 257 * 4)) (hL1 : Hid (∀ u ∈ L, u.oneCell' = true)) : Calls Tryz.prog 21 #[.agg #[.slice (some ⟨g, 0, none⟩) 257 cap]] w fun e w' => ∃ g' cap', e = .returned (.agg #[.slice (some ⟨g', 0, none⟩) 257 cap']) ∧ Kp0 w w' := by
  go_enter Tryz.func21, Tryz.ntmps21
  go_wp2_with (go_at_call 47; (with_reducible refine Calls.mono (hCloneB (L := L) hL hL1) ?_); rintro e wc ⟨g1, cap1, rfl, _⟩)
  refine ret_cell rfl rfl rfl (by rfl) (by rfl) (by rfl) ?_
  exact ⟨_, _, rfl, ⟨Gr.out⟩⟩
set_option synthInstance.maxHeartbeats 2000000 in
set_option synthInstance.maxSize 100000 in
set_option maxRecDepth 100000 in
set_option maxHeartbeats 16000000 in
theorem hCheckB {w : World} {g cap : Nat} : Calls Tryz.prog 22 #[.agg #[.slice (some ⟨g, 0, none⟩) 257 cap]] w fun e w' => e = .returned (.int .i64 7) ∧ Kp0 w w' := by
  go_enter Tryz.func22, Tryz.ntmps22
  go_wp2_with fail
  go_ret
  exact ⟨rfl, ⟨Gr.out⟩⟩
set_option synthInstance.maxHeartbeats 2000000 in
set_option synthInstance.maxSize 100000 in
set_option maxRecDepth 100000 in
set_option maxHeartbeats 16000000 in
theorem hPut1B {w : World} {p g cap : Nat} {L : List Value} [hp : BkC w p [.slice (some ⟨g, 0, none⟩) 257 cap] 29] [hb : BkC w g L 38] (hL : Hid (L.length = 257 * 4)) (hL1 : Hid (∀ u ∈ L, u.oneCell' = true)) : Calls Tryz.prog 20 #[.slice none 0 0, .pointer (some ⟨p, 0, none⟩)] w fun e w' => ∃ a l c, e = .returned (.tuple #[.agg #[.slice a l c], .int .i64 7]) ∧ Kp0 w w' := by
  have c0 := hp.out.cell (i := 0) rfl
  go_enter Tryz.func20, Tryz.ntmps20
  go_wp2_with fail
  go_region_with (first | (go_at_call 21; (with_reducible refine Calls.mono (hTwinB (L := L) hL hL1) ?_); rintro e wc ⟨g1, cap1, rfl, _⟩) | (go_at_call 22; (with_reducible refine Calls.mono (hCheckB) ?_); rintro e wc ⟨rfl, _⟩))
  all_goals
    go_wp2_with fail
    refine ret_cell_tmp rfl rfl rfl (by rfl) (by rfl) (by rfl) ?_
    exact ⟨_, _, _, rfl, ⟨Gr.out⟩⟩
set_option synthInstance.maxHeartbeats 2000000 in
set_option synthInstance.maxSize 100000 in
set_option maxRecDepth 100000 in
set_option maxHeartbeats 16000000 in
theorem hPutBad {w : World} {h m : Nat} {nm : ByteArray} {a : Option Addr} {l c : Nat} (hsz : nm.size ≤ 70000) (hfit : fitL nm.data.toList = false) [hh : BkC w h [.bool true, .int .i32 0, .int .u32 0, .map (some m)] 51] :
    Calls Tryz.prog 8 #[.pointer (some ⟨h, 0, none⟩), .string nm, .agg #[.slice a l c]] w fun e w' => e = .returned (.int .i64 310) ∧ Kp0 w w' := by
  have hmf : ∀ (fn : Fn) (first cap : Array Value) (w : World), (Instr.makeFunc fn first cap).run Tryz.prog w = .ok (.func fn first cap) w := fun _ _ _ _ => rfl
  have HS := hid hsz
  have HF := hid hfit
  clear hsz hfit
  go_enter Tryz.func8, Tryz.ntmps8
  go_wp2_with (go_at_call 19; (with_reducible refine Calls.mono (hChangeBad (m := m) (h := h) HS HF) ?_); rintro e wc ⟨rfl, _⟩)
  go_ret
  exact ⟨rfl, ⟨Gr.out⟩⟩
set_option synthInstance.maxHeartbeats 2000000 in
set_option synthInstance.maxSize 100000 in
set_option maxRecDepth 100000 in
set_option maxHeartbeats 16000000 in
theorem hPutSP {w : World} {h m n : Nat} {g cap : Nat} {s : Nat × Nat} {nm : ByteArray} {D : DataW Unit} {K : List UInt8 → Bool} (hsz : nm.size ≤ 70000) (hfit : fitL nm.data.toList = true)
    [hh : BkC w h [.bool true, .int .i32 0, .int .u32 0, .map (some m)] 51] (hm : Mk w m n D K) (hn : n < 1000000) (hroom : K nm.data.toList = true ∨ Maps.size D < 64) [hs : FsC w g s] [ok : OkS s] :
    Calls Tryz.prog 8 #[.pointer (some ⟨h, 0, none⟩), .string nm, .agg #[.slice (some ⟨g, 0, none⟩) 1 cap]] w fun e w' => e = .returned (.int .i64 0) ∧ ∃ b : Nat, BkC w' h [.bool true, .int .i32 0, .int .u32 0, .map (some m)] 51 ∧ Mk w' m (n + 1) (D.put (.string nm.data.toList) (.lit (.int .i64 b))) (fun q => if q = nm.data.toList then true else K q) ∧ KpS w [h, m] w' := by
  have hmf : ∀ (fn : Fn) (first cap : Array Value) (w : World), (Instr.makeFunc fn first cap).run Tryz.prog w = .ok (.func fn first cap) w := fun _ _ _ _ => rfl
  have hm' := hid (hm.below (Gr.out : Below w.heap.size w (w.alloc (.cells #[.slice (some ⟨g, 0, none⟩) 1 cap] 29))))
  have HS := hid hsz
  have HF := hid hfit
  have HN := hid hn
  have HR := hid hroom
  have ltm : Has w m := ⟨by obtain ⟨es, c, e⟩ := hm.heap; exact lt_of_block e⟩
  haveI nph : NeN w.heap.size h := ⟨fun e => by have := (inferInstance : Has w h).lt; omega⟩
  haveI ngh : NeN g h := ⟨by
    rintro rfl
    obtain ⟨C, a, -⟩ := hs.out
    rw [hh.out] at a
    simp at a⟩
  have hcl : Hid (∀ W : World, Keeps (w.alloc (.cells #[.slice (some ⟨g, 0, none⟩) 1 cap] 29)).heap.size [h] (w.alloc (.cells #[.slice (some ⟨g, 0, none⟩) 1 cap] 29)) W → Calls Tryz.prog 20 #[.slice none 0 0, .pointer (some ⟨w.heap.size, 0, none⟩)] W fun e w' => ∃ a l c, e = .returned (.tuple #[.agg #[.slice a l c], .int .i64 0]) ∧ Kp0 W w') := hid (fun W hk => by
    haveI kk : KpS (w.alloc (.cells #[.slice (some ⟨g, 0, none⟩) 1 cap] 29)) [h] W := ⟨hk⟩
    exact ((hPut1 (s := s)).mono fun e w' ⟨g', cap', h1, _, h3, _⟩ => ⟨_, _, _, h1, h3⟩))
  clear hsz hfit hn hroom hm
  go_enter Tryz.func8, Tryz.ntmps8
  go_wp2_with (go_at_call 19; (with_reducible refine Calls.mono (hChangeP (p := w.heap.size) (nm := nm) HS HF hm'.out HN HR.out hcl) ?_); rintro e wc ⟨rfl, b, hb1, hb2, hb3⟩)
  go_ret
  exact ⟨rfl, b, hb1, hb2, ⟨GS.out⟩⟩
set_option synthInstance.maxHeartbeats 2000000 in
set_option synthInstance.maxSize 100000 in
set_option maxRecDepth 100000 in
set_option maxHeartbeats 16000000 in
theorem hPutNP {w : World} {h m n : Nat}  {nm : ByteArray} {D : DataW Unit} {K : List UInt8 → Bool} (hsz : nm.size ≤ 70000) (hfit : fitL nm.data.toList = true)
    [hh : BkC w h [.bool true, .int .i32 0, .int .u32 0, .map (some m)] 51] (hm : Mk w m n D K) (hn : n < 1000000) (hroom : K nm.data.toList = true ∨ Maps.size D < 64)  :
    Calls Tryz.prog 8 #[.pointer (some ⟨h, 0, none⟩), .string nm, .agg #[.slice none 0 0]] w fun e w' => e = .returned (.int .i64 0) ∧ ∃ b : Nat, BkC w' h [.bool true, .int .i32 0, .int .u32 0, .map (some m)] 51 ∧ Mk w' m (n + 1) (D.put (.string nm.data.toList) (.lit (.int .i64 b))) (fun q => if q = nm.data.toList then true else K q) ∧ KpS w [h, m] w' := by
  have hmf : ∀ (fn : Fn) (first cap : Array Value) (w : World), (Instr.makeFunc fn first cap).run Tryz.prog w = .ok (.func fn first cap) w := fun _ _ _ _ => rfl
  have hm' := hid (hm.below (Gr.out : Below w.heap.size w (w.alloc (.cells #[.slice none 0 0] 29))))
  have HS := hid hsz
  have HF := hid hfit
  have HN := hid hn
  have HR := hid hroom
  have ltm : Has w m := ⟨by obtain ⟨es, c, e⟩ := hm.heap; exact lt_of_block e⟩
  haveI nph : NeN w.heap.size h := ⟨fun e => by have := (inferInstance : Has w h).lt; omega⟩
  have hcl : Hid (∀ W : World, Keeps (w.alloc (.cells #[.slice none 0 0] 29)).heap.size [h] (w.alloc (.cells #[.slice none 0 0] 29)) W → Calls Tryz.prog 20 #[.slice none 0 0, .pointer (some ⟨w.heap.size, 0, none⟩)] W fun e w' => ∃ a l c, e = .returned (.tuple #[.agg #[.slice a l c], .int .i64 0]) ∧ Kp0 W w') := hid (fun W hk => by
    haveI kk : KpS (w.alloc (.cells #[.slice none 0 0] 29)) [h] W := ⟨hk⟩
    exact (hPut1N.mono fun e w' ⟨h1, h3⟩ => ⟨_, _, _, h1, h3⟩))
  clear hsz hfit hn hroom hm
  go_enter Tryz.func8, Tryz.ntmps8
  go_wp2_with (go_at_call 19; (with_reducible refine Calls.mono (hChangeP (p := w.heap.size) (nm := nm) HS HF hm'.out HN HR.out hcl) ?_); rintro e wc ⟨rfl, b, hb1, hb2, hb3⟩)
  go_ret
  exact ⟨rfl, b, hb1, hb2, ⟨GS.out⟩⟩
set_option synthInstance.maxHeartbeats 2000000 in
set_option synthInstance.maxSize 100000 in
set_option maxRecDepth 100000 in
set_option maxHeartbeats 16000000 in
theorem hPutNF {w : World} {h m n : Nat}  {nm : ByteArray} {D : DataW Unit} {K : List UInt8 → Bool} (hsz : nm.size ≤ 70000) (hfit : fitL nm.data.toList = true)
    [hh : BkC w h [.bool true, .int .i32 0, .int .u32 0, .map (some m)] 51] (hm : Mk w m n D K) (hn : n < 1000000) (hnew : K nm.data.toList = false) (hfull : 64 ≤ Maps.size D)  :
    Calls Tryz.prog 8 #[.pointer (some ⟨h, 0, none⟩), .string nm, .agg #[.slice none 0 0]] w fun e w' => e = .returned (.int .i64 4) ∧ Kp0 w w' := by
  have hmf : ∀ (fn : Fn) (first cap : Array Value) (w : World), (Instr.makeFunc fn first cap).run Tryz.prog w = .ok (.func fn first cap) w := fun _ _ _ _ => rfl
  have hm' := hid (hm.below (Gr.out : Below w.heap.size w (w.alloc (.cells #[.slice none 0 0] 29))))
  have HS := hid hsz
  have HF := hid hfit
  have HN := hid hn
  have H1 := hid hnew
  have H2 := hid hfull
  have ltm : Has w m := ⟨by obtain ⟨es, c, e⟩ := hm.heap; exact lt_of_block e⟩
  haveI nph : NeN w.heap.size h := ⟨fun e => by have := (inferInstance : Has w h).lt; omega⟩
  have hcl : Hid (∀ W : World, Keeps (w.alloc (.cells #[.slice none 0 0] 29)).heap.size [h] (w.alloc (.cells #[.slice none 0 0] 29)) W → Calls Tryz.prog 20 #[.slice none 0 0, .pointer (some ⟨w.heap.size, 0, none⟩)] W fun e w' => ∃ a l c, e = .returned (.tuple #[.agg #[.slice a l c], .int .i64 0]) ∧ Kp0 W w') := hid (fun W hk => by
    haveI kk : KpS (w.alloc (.cells #[.slice none 0 0] 29)) [h] W := ⟨hk⟩
    exact (hPut1N.mono fun e w' ⟨h1, h3⟩ => ⟨_, _, _, h1, h3⟩))
  clear hsz hfit hn hnew hfull hm
  go_enter Tryz.func8, Tryz.ntmps8
  go_wp2_with (go_at_call 19; (with_reducible refine Calls.mono (hChangeF (p := w.heap.size) (nm := nm) HS HF hm'.out HN H1.out H2.out hcl) ?_); rintro e wc ⟨rfl, _⟩)
  go_ret
  exact ⟨rfl, ⟨Gr.out⟩⟩
set_option synthInstance.maxHeartbeats 2000000 in
set_option synthInstance.maxSize 100000 in
set_option maxRecDepth 100000 in
set_option maxHeartbeats 16000000 in
theorem hPutBE {w : World} {h m n : Nat} {g cap : Nat} {L : List Value} {nm : ByteArray} {D : DataW Unit} {K : List UInt8 → Bool} (hsz : nm.size ≤ 70000) (hfit : fitL nm.data.toList = true)
    [hh : BkC w h [.bool true, .int .i32 0, .int .u32 0, .map (some m)] 51] (hm : Mk w m n D K) (hn : n < 1000000)  [hb : BkC w g L 38] (hL : Hid (L.length = 257 * 4)) (hL1 : Hid (∀ u ∈ L, u.oneCell' = true)) :
    Calls Tryz.prog 8 #[.pointer (some ⟨h, 0, none⟩), .string nm, .agg #[.slice (some ⟨g, 0, none⟩) 257 cap]] w fun e w' => e = .returned (.int .i64 7) ∧ Kp0 w w' := by
  have hmf : ∀ (fn : Fn) (first cap : Array Value) (w : World), (Instr.makeFunc fn first cap).run Tryz.prog w = .ok (.func fn first cap) w := fun _ _ _ _ => rfl
  have hm' := hid (hm.below (Gr.out : Below w.heap.size w (w.alloc (.cells #[.slice (some ⟨g, 0, none⟩) 257 cap] 29))))
  have HS := hid hsz
  have HF := hid hfit
  have HN := hid hn
  have ltm : Has w m := ⟨by obtain ⟨es, c, e⟩ := hm.heap; exact lt_of_block e⟩
  haveI nph : NeN w.heap.size h := ⟨fun e => by have := (inferInstance : Has w h).lt; omega⟩
  haveI ngh : NeN g h := ⟨by
    rintro rfl
    have a := hb.out
    rw [Bk, hh.out] at a
    simp at a⟩
  have hcl : Hid (∀ W : World, Keeps (w.alloc (.cells #[.slice (some ⟨g, 0, none⟩) 257 cap] 29)).heap.size [h] (w.alloc (.cells #[.slice (some ⟨g, 0, none⟩) 257 cap] 29)) W → Calls Tryz.prog 20 #[.slice none 0 0, .pointer (some ⟨w.heap.size, 0, none⟩)] W fun e w' => ∃ a l c, e = .returned (.tuple #[.agg #[.slice a l c], .int .i64 7]) ∧ Kp0 W w') := hid (fun W hk => by
    haveI kk : KpS (w.alloc (.cells #[.slice (some ⟨g, 0, none⟩) 257 cap] 29)) [h] W := ⟨hk⟩
    exact (hPut1B (L := L) hL hL1))
  clear hsz hfit hn  hm
  go_enter Tryz.func8, Tryz.ntmps8
  go_wp2_with (go_at_call 19; (with_reducible refine Calls.mono (hChangeE (p := w.heap.size) (nm := nm) HS HF hm'.out HN (ec := 7) (by decide) hcl) ?_); rintro e wc ⟨rfl, _⟩)
  go_ret
  exact ⟨rfl, ⟨Gr.out⟩⟩
end
section
open Go.RowKit
abbrev digS : ByteArray := ⟨#[48, 49, 50, 51, 52, 53, 54, 55, 56, 57]⟩
theorem hTrimLeft {s : ByteArray} {w : World} (h0 : 0 < s.size) : Calls Tryz.prog 108 #[.string s, .string digS] w fun e w' => e = .returned (.string ⟨(Lib.trimLeftS s.data.toList digS.data.toList).toArray⟩) ∧ Kp0 w w' := by
  refine Calls.mono (Any.strings_TrimLeft_set Tryz.lays161 (fun W => by kernel_rfl) (by kernel_rfl) s digS w (by decide) h0 (by decide) (fun j b h => by
    have H : ∀ x ∈ digS.data.toList, x.toNat < 128 := by decide
    exact H b (List.mem_of_getElem? h))) ?_
  rintro e w' ⟨rfl, rfl⟩
  exact ⟨rfl, ⟨Gr.out⟩⟩
theorem hAtoi {s : ByteArray} {w : World} {n : Int} (hs : s.size ≤ 70000) (h : Lib.atoiAll s.data.toList = .ok n) : Calls Tryz.prog 109 #[.string s] w fun e w' => e = .returned (.tuple #[.int .i64 n, .nilIface]) ∧ Kp0 w w' := by
  refine Calls.mono (Tryz.strconv_Atoi_ok s (by omega) n h w) ?_
  rintro e w' ⟨rfl, hw⟩
  refine ⟨rfl, ?_⟩
  rcases hw with rfl | ⟨t, rfl⟩
  · exact ⟨Below.refl _ _⟩
  · exact ⟨⟨rfl, rfl, rfl, by rw [Lib.bytesWorld_size]; omega, fun j hj => Lib.bytesWorld_at_old w 5 t j hj⟩⟩
set_option synthInstance.maxHeartbeats 2000000 in
set_option synthInstance.maxSize 100000 in
set_option maxRecDepth 100000 in
set_option maxHeartbeats 16000000 in
theorem hWhole {w : World} {r i most nd n v0 : Nat} {s rest t dB : ByteArray} [hr : BkC w r [.string s, .int .i64 (i : Nat)] 131] (hi : i ≤ s.size) (hs : s.size ≤ 70000) (h1 : s.extract i s.size = rest) (h2 : (⟨(Lib.trimLeftS rest.data.toList digS.data.toList).toArray⟩ : ByteArray) = t) (h3 : rest.size = nd + t.size) (h4 : rest.extract 0 nd = dB) (h5 : Lib.atoiAll dB.data.toList = .ok (n : Int)) (h6 : n ≤ most) (h7 : 0 < rest.size) (hsz : rest.size ≤ 70000) (h9 : dB.size ≤ 70000) (h10 : most ≤ 70000) (hv : (rest[0]'h7).toNat = v0) (h8 : nd ≤ 1 ∨ (1 < nd ∧ v0 ≠ 48)) :
    Calls Tryz.prog 68 #[.pointer (some ⟨r, 0, none⟩), .int .i64 (most : Nat)] w fun e w' => e = .returned (.tuple #[.int .i64 (n : Nat), .pointer none]) ∧ BkC w' r [.string s, .int .i64 ((i : Int) + (nd : Int))] 131 ∧ KpS w [r] w' := by
  have TL := hid (fun W : World => hTrimLeft (s := rest) (w := W) h7)
  rw [h2] at TL
  have AT := hid (fun W : World => hAtoi (w := W) h9 h5)
  have hnt : (rest.size : Int) - (t.size : Int) = (nd : Int) := by omega
  have b1 : (i : Int) ≤ (s.size : Int) := by omega
  have b2 : (0 : Int) ≤ (i : Int) := by omega
  have b3 : (nd : Int) ≤ (rest.size : Int) := by omega
  have b4 : (0 : Int) ≤ (nd : Int) := by omega
  have b5 : (0 : Int) < (rest.size : Int) := by omega
  have n6 : ¬ ((n : Int) > (most : Int)) := by omega
  have n6b : ¬ ((most : Int) < (n : Int)) := by omega
  have H4 := hid h4
  have H1 := hid h1
  have d0 := hr.out.cell (i := 0) rfl
  have d1 := hr.out.cell (i := 1) rfl
  have f1 := hr.out.free 1
  clear h2 h3 h5
  rcases h8 with h8 | ⟨h8, h8'⟩
  · have e8 : ¬ ((1 : Int) < (nd : Int)) := by omega
    have e8b : decide ((1 : Int) < (nd : Int)) = false := decide_eq_false e8
    go_enter Tryz.func68, Tryz.ntmps68
    go_wp2_with fail
    go_region_held3 (fun W => W.cell? ⟨r, 0, none⟩ = some (.string s) ∧ W.cell? ⟨r, 1, none⟩ = some (.int .i64 i)) (refine ⟨?_, ?_⟩ <;> (first | exact Bk.cell BkC.out rfl | (simp [go_sem]; done))) (fail)
    go_wp2_with (first | (go_at_call 108; (with_reducible refine Calls.mono (TL.out _) ?_); rintro e wt ⟨rfl, ht⟩) | (go_at_call 109; (with_reducible refine Calls.mono (AT.out _) ?_); rintro e wt2 ⟨rfl, ht2⟩; have d1 := (inferInstance : BkC wt2 r _ 131).out.cell (i := 1) rfl; have f1 := (inferInstance : BkC wt2 r _ 131).out.free 1))
    go_ret2
    exact ⟨rfl, inferInstance, ⟨GS.out⟩⟩
  · have e8 : ((1 : Int) < (nd : Int)) := by omega
    have e8b : decide ((1 : Int) < (nd : Int)) = true := decide_eq_true e8
    have e9 : ((v0 : Int) == 48) = false := by rw [beq_eq_false_iff_ne]; omega
    go_enter Tryz.func68, Tryz.ntmps68
    go_wp2_with fail
    go_region_held3 (fun W => W.cell? ⟨r, 0, none⟩ = some (.string s) ∧ W.cell? ⟨r, 1, none⟩ = some (.int .i64 i)) (refine ⟨?_, ?_⟩ <;> (first | exact Bk.cell BkC.out rfl | (simp [go_sem]; done))) (fail)
    go_wp2_with (first | (go_at_call 108; (with_reducible refine Calls.mono (TL.out _) ?_); rintro e wt ⟨rfl, ht⟩) | (go_at_call 109; (with_reducible refine Calls.mono (AT.out _) ?_); rintro e wt2 ⟨rfl, ht2⟩; have d1 := (inferInstance : BkC wt2 r _ 131).out.cell (i := 1) rfl; have f1 := (inferInstance : BkC wt2 r _ 131).out.free 1))
    go_ret2
    exact ⟨rfl, inferInstance, ⟨GS.out⟩⟩
end
section
open Go.RowKit
set_option synthInstance.maxHeartbeats 2000000 in
set_option synthInstance.maxSize 100000 in
set_option maxRecDepth 100000 in
set_option maxHeartbeats 16000000 in
theorem hName {w : World} {r i nn j : Nat} {s rest nm ah : ByteArray} [hr : BkC w r [.string s, .int .i64 (i : Nat)] 131] (h1 : s.extract i s.size = rest) (h2 : runL rest.data.toList = nn) (hj : j = i + nn) (h3 : s.extract i j = nm) (h4 : fitL nm.data.toList = true) (h5 : Op.bytesLess nm.toList ah.toList = false) (h6 : (nm.toList == ah.toList) = false) (hjs : j ≤ s.size) (hs : s.size ≤ 70000) (hrs : rest.size ≤ 70000) (hns : nm.size = nn) :
    Calls Tryz.prog 110 #[.pointer (some ⟨r, 0, none⟩), .string ah] w fun e w' => e = .returned (.tuple #[.string nm, .pointer none]) ∧ BkC w' r [.string s, .int .i64 (j : Nat)] 131 ∧ KpS w [r] w' := by
  have RU := hid (fun W : World => hRun (w := W) hrs)
  rw [h2] at RU
  have FI := hid (fun W : World => hFit (s := nm) (w := W) (by omega))
  rw [h4] at FI
  have hz : IntKind.i64.wrap ((i : Int) + (nn : Int)) = (j : Int) := by rw [IntWalk.i64_in _ (by omega)]; omega
  have b1 : (i : Int) ≤ (s.size : Int) := by omega
  have b2 : (0 : Int) ≤ (i : Int) := by omega
  have b3 : (j : Int) ≤ (s.size : Int) := by omega
  have b4 : (i : Int) ≤ (j : Int) := by omega
  have d0 := hr.out.cell (i := 0) rfl
  have d1 := hr.out.cell (i := 1) rfl
  have f1 := hr.out.free 1
  have HJ := hid hj
  clear h2 h4 hj
  go_enter Tryz.func110, Tryz.ntmps110
  go_wp2_with fail
  go_region_held3 (fun W => W.cell? ⟨r, 0, none⟩ = some (.string s) ∧ W.cell? ⟨r, 1, none⟩ = some (.int .i64 i)) (refine ⟨?_, ?_⟩ <;> (first | exact Bk.cell BkC.out rfl | (simp [go_sem]; done))) (first | (go_at_call 83; (with_reducible refine Calls.mono (RU.out _) ?_); rintro e wc ⟨rfl, hw⟩; obtain rfl := hw.symm))
  all_goals go_wp2_with (go_at_call 50; (with_reducible refine Calls.mono (FI.out _) ?_); rintro e wc ⟨rfl, hw⟩; obtain rfl := hw.symm)
  all_goals go_ret2
  all_goals exact ⟨rfl, inferInstance, ⟨GS.out⟩⟩
end
section
open Go.RowKit
theorem flowR_A : (flowR saveL).1 = [elA] ∧ (flowR saveL).2.1 = 0 := by decide +kernel
theorem fs_own {w : World} {B : Nat} {sv : Value} (h : w.ownsRow B 38 4 sv 1 (elCells elA)) : ∃ g cap : Nat, sv = .slice (some ⟨g, 0, none⟩) 1 cap ∧ Fs w g (4611686018427387904, 4607182418800017408) ∧ B ≤ g := by
  obtain ⟨h1, h2⟩ := h
  rcases h2 with ⟨-, h⟩ | ⟨g, cap, cur, rfl, hb, hg, hc, hm, hs, ht⟩
  · cases h
  · exact ⟨g, cap, rfl, ⟨cur, hg, ht⟩, hb⟩
theorem hRead {w : World} (V : Vars w) (h10 : 10 ≤ w.heap.size) : Calls Tryz.prog 111 #[.string saveT] w fun e w' => ∃ g cap : Nat, e = .returned (.tuple #[.agg #[.slice (some ⟨g, 0, none⟩) 1 cap], .nilIface]) ∧ FsC w' g (4611686018427387904, 4607182418800017408) ∧ Kp0 w w' ∧ UpW w g := by
  have h := readF_any saveT (by rw [saveT_size]; decide) w V h10
  rw [show saveT.data.toList = saveL from rfl, flowR_A.1, flowR_A.2] at h
  refine Calls.mono h ?_
  rintro e w' ⟨sv, v, rfl, hT, hO, hb⟩
  obtain ⟨g, cap, rfl, hf, hg⟩ := fs_own (sv := sv) hO
  rcases hT with ⟨-, rfl⟩ | ⟨h, -⟩
  · exact ⟨g, cap, rfl, ⟨hf⟩, ⟨hb⟩, ⟨hg⟩⟩
  · exact absurd rfl h
end
section
open Go.RowKit
def houB : ByteArray := ⟨hou3.toArray⟩
theorem houB_size : houB.size = 195 := by decide +kernel
theorem hWordB {w : World} {r g n c i j : Nat} {I J : Int} {s : ByteArray} {L : List Value} (ws : List ByteArray) [hr : BkC w r [.string s, .int .i64 I] 131] [hb : BkC w g L 9] [ne : NeN g r] (hI : I = (i : Int)) (hJ : J = (j : Int)) (hL : L = ws.map Value.string) (hn : ws.length = n) (hn2 : n ≤ 100) (hi : i ≤ s.size) (hs : s.size ≤ 70000) (hok : wordS s.data.toList (ws.map fun x => x.data.toList) i = (j, true)) :
    Calls Tryz.prog 67 #[.pointer (some ⟨r, 0, none⟩), .slice (some ⟨g, 0, none⟩) n c] w fun e w' => e = .returned (.pointer none) ∧ BkC w' r [.string s, .int .i64 J] 131 ∧ KpS w [r] w' := by
  subst hI hJ hL
  have h := hWord (w := w) (r := r) (g := g) (n := n) (c := c) (i := i) (s := s) ws hi hs hn hn2 ne.out hb.out.lt (fun k hk => hb.out.cell (by rw [List.getElem?_map, List.getElem?_eq_getElem (by omega), List.getD_eq_getElem?_getD, List.getElem?_eq_getElem (by omega)]; rfl)) (by rw [hok])
  rw [hok] at h
  exact h
def restA : ByteArray := houB.extract 19 houB.size
def trimA : ByteArray := ⟨(Lib.trimLeftS restA.data.toList digS.data.toList).toArray⟩
def numA : ByteArray := restA.extract 0 1
theorem restA_size : restA.size = 176 := by decide +kernel
theorem trimA_size : trimA.size = 175 := by decide +kernel
theorem hWholeA {w : World} {r : Nat} [hr : BkC w r [.string houB, .int .i64 19] 131] : Calls Tryz.prog 68 #[.pointer (some ⟨r, 0, none⟩), .int .i64 64] w fun e w' => e = .returned (.tuple #[.int .i64 1, .pointer none]) ∧ BkC w' r [.string houB, .int .i64 20] 131 ∧ KpS w [r] w' := by
  haveI hr2 : BkC w r [.string houB, .int .i64 ((19 : Nat) : Int)] 131 := hr
  exact hWhole (w := w) (r := r) (i := 19) (most := 64) (nd := 1) (n := 1) (v0 := 49) (s := houB) (rest := restA) (t := trimA) (dB := numA) (by rw [houB_size]; decide) (by rw [houB_size]; decide) rfl rfl (by rw [restA_size, trimA_size]) rfl (by kernel_rfl) (by decide) (by rw [restA_size]; decide) (by rw [restA_size]; decide) (by decide +kernel) (by decide) (by decide +kernel) (.inl (by decide))
def restB : ByteArray := houB.extract 31 houB.size
def trimB : ByteArray := ⟨(Lib.trimLeftS restB.data.toList digS.data.toList).toArray⟩
def numB : ByteArray := restB.extract 0 3
theorem restB_size : restB.size = 164 := by decide +kernel
theorem trimB_size : trimB.size = 161 := by decide +kernel
theorem hWholeB {w : World} {r : Nat} [hr : BkC w r [.string houB, .int .i64 31] 131] : Calls Tryz.prog 68 #[.pointer (some ⟨r, 0, none⟩), .int .i64 65536] w fun e w' => e = .returned (.tuple #[.int .i64 139, .pointer none]) ∧ BkC w' r [.string houB, .int .i64 34] 131 ∧ KpS w [r] w' := by
  haveI hr2 : BkC w r [.string houB, .int .i64 ((31 : Nat) : Int)] 131 := hr
  exact hWhole (w := w) (r := r) (i := 31) (most := 65536) (nd := 3) (n := 139) (v0 := 49) (s := houB) (rest := restB) (t := trimB) (dB := numB) (by rw [houB_size]; decide) (by rw [houB_size]; decide) rfl rfl (by rw [restB_size, trimB_size]) rfl (by kernel_rfl) (by decide) (by rw [restB_size]; decide) (by rw [restB_size]; decide) (by decide +kernel) (by decide) (by decide +kernel) (.inr (by decide))
def restC : ByteArray := houB.extract 26 houB.size
theorem nameC : houB.extract 26 30 = wingB := by
  have e : (houB.extract 26 30).data.toList = wingB.data.toList := by decide +kernel
  cases h : houB.extract 26 30
  cases h2 : wingB
  rw [h, h2] at e
  simpa using e
theorem hNameC {w : World} {r : Nat} [hr : BkC w r [.string houB, .int .i64 26] 131] : Calls Tryz.prog 110 #[.pointer (some ⟨r, 0, none⟩), .string ⟨#[]⟩] w fun e w' => e = .returned (.tuple #[.string wingB, .pointer none]) ∧ BkC w' r [.string houB, .int .i64 30] 131 ∧ KpS w [r] w' := by
  haveI hr2 : BkC w r [.string houB, .int .i64 ((26 : Nat) : Int)] 131 := hr
  exact hName (w := w) (r := r) (i := 26) (nn := 4) (j := 30) (s := houB) (rest := restC) (nm := wingB) (ah := ⟨#[]⟩) rfl (by decide +kernel) rfl nameC (by decide +kernel) (by decide +kernel) (by decide +kernel) (by rw [houB_size]; decide) (by rw [houB_size]; decide) (by decide +kernel) (by decide +kernel)
end
section
open Go.RowKit
section
variable {P : Program} {fn : Func} {R : Ending → World → Prop} {a : Act} {w : World} {q p u : Tmp} {ty : TypeId} {g : Nat} {L : List Value} {T : Nat} {d : TypeDesc}
theorem ret_tct (h : fn.results = #[.tmp q, .cell p ty, .tmp u]) (hd0 : a.defers = []) (hp : a.tmps.getD p undef = .pointer (some ⟨g, 0, none⟩)) [hb : BkC w g L T] (hu : P.underlying ty = some d) (hd : (match d with | .struct _ | .array _ _ => true | _ => false) = true) (hi : (P.info? ty).map (·.size) = some L.toArray.size)
    (hR : R (.returned (.tuple #[a.tmps.getD q undef, .agg L.toArray, a.tmps.getD u undef])) w) : bodyPost P fn R .ret a w := by
  refine bodyPost_ret (v := .tuple #[a.tmps.getD q undef, .agg L.toArray, a.tmps.getD u undef]) ?_ hd0 hR
  have hp' : a.tmps[p]?.getD undef = .pointer (some ⟨g, 0, none⟩) := by simpa using hp
  simp [results, h, hp', asAddr, Result.andThen, run_loadVar_row w g T ty L.toArray (0, 0) d hb.out hu hd hi]
end
theorem textD : houB.extract 35 174 = saveT := by
  have e : (houB.extract 35 174).data.toList = saveT.data.toList := by decide +kernel
  cases h : houB.extract 35 174
  cases h2 : saveT
  rw [h, h2] at e
  simpa using e
set_option synthInstance.maxHeartbeats 2000000 in
set_option synthInstance.maxSize 100000 in
set_option maxRecDepth 100000 in
set_option maxHeartbeats 16000000 in
theorem hFlow {w : World} {r : Nat} [hr : BkC w r [.string houB, .int .i64 21] 131] (V : Vars w) (h10 : 10 ≤ w.heap.size) (hr10 : 10 ≤ r) : Calls Tryz.prog 69 #[.pointer (some ⟨r, 0, none⟩), .string ⟨#[]⟩] w fun e w' => ∃ g cap : Nat, e = .returned (.tuple #[.string wingB, .agg #[.slice (some ⟨g, 0, none⟩) 1 cap], .pointer none]) ∧ FsC w' g (4611686018427387904, 4607182418800017408) ∧ BkC w' r [.string houB, .int .i64 174] 131 ∧ KpS w [r] w' ∧ UpW w g := by
  have VW := hid (fun (W : World) (hg : Keeps w.heap.size [r] w W) => V.keep hg h10 (by simpa using hr10))
  have H10 := hid h10
  have hsz := houB_size
  have htx := textD
  have hq1 : IntKind.i64.wrap ((houB.size : Int) - 35) = 160 := by rw [hsz]; decide
  have hq2 : IntKind.i64.wrap (35 + 139) = 174 := by decide
  have hq3 : IntKind.i64.wrap 174 = 174 := by decide
  have hq4 : IntKind.i64.wrap 160 = 160 := by decide
  have hsl : ∀ W : World, (Instr.slice 9 (.string houB) (some (.int .i64 35)) (some (.int .i64 174)) none).run Tryz.prog W = .ok (.string saveT) W := fun W => (run_slice_string W 9 houB .i64 .i64 35 174 Tryz.underlying9 (by decide) (by decide) (by rw [hsz]; decide)).trans (by rw [show (35 : Int).toNat = 35 from rfl, show (174 : Int).toNat = 174 from rfl, htx])
  have b1 : (174 : Int) ≤ (houB.size : Int) := by rw [hsz]; decide
  have b2 : (35 : Int) ≤ (houB.size : Int) := by rw [hsz]; decide
  clear V h10 hsz htx
  go_enter Tryz.func69, Tryz.ntmps69
  go_upto_region 17 with (first | (go_at_call 67; (with_reducible refine Calls.mono (hWordB (i := 21) (j := 26) (I := 21) (J := 26) [⟨#[102, 108, 111, 119]⟩, ⟨#[32]⟩] rfl rfl rfl rfl (by decide) (by rw [houB_size]; decide) (by rw [houB_size]; decide) (by decide +kernel)) ?_); rintro e w1 ⟨rfl, _, _⟩; have d0 := (inferInstance : BkC w1 r _ 131).out.cell (i := 0) rfl; have d1 := (inferInstance : BkC w1 r _ 131).out.cell (i := 1) rfl) | (go_at_call 110; (with_reducible refine Calls.mono hNameC ?_); rintro e w2 ⟨rfl, _, _⟩; have d0 := (inferInstance : BkC w2 r _ 131).out.cell (i := 0) rfl; have d1 := (inferInstance : BkC w2 r _ 131).out.cell (i := 1) rfl) | (go_at_call 67; (with_reducible refine Calls.mono (hWordB (i := 30) (j := 31) (I := 30) (J := 31) [⟨#[32]⟩] rfl rfl rfl rfl (by decide) (by rw [houB_size]; decide) (by rw [houB_size]; decide) (by decide +kernel)) ?_); rintro e w3 ⟨rfl, _, _⟩; have d0 := (inferInstance : BkC w3 r _ 131).out.cell (i := 0) rfl; have d1 := (inferInstance : BkC w3 r _ 131).out.cell (i := 1) rfl) | (go_at_call 68; (with_reducible refine Calls.mono hWholeB ?_); rintro e w4 ⟨rfl, _, _⟩; have d0 := (inferInstance : BkC w4 r _ 131).out.cell (i := 0) rfl; have d1 := (inferInstance : BkC w4 r _ 131).out.cell (i := 1) rfl) | (go_at_call 67; (with_reducible refine Calls.mono (hWordB (i := 34) (j := 35) (I := 34) (J := 35) [⟨#[10]⟩] rfl rfl rfl rfl (by decide) (by rw [houB_size]; decide) (by rw [houB_size]; decide) (by decide +kernel)) ?_); rintro e w5 ⟨rfl, _, _⟩; have d0 := (inferInstance : BkC w5 r _ 131).out.cell (i := 0) rfl; have d1 := (inferInstance : BkC w5 r _ 131).out.cell (i := 1) rfl))
  go_region_held3 (fun W => W.cell? ⟨r, 0, none⟩ = some (.string houB) ∧ W.cell? ⟨r, 1, none⟩ = some (.int .i64 35)) (refine ⟨?_, ?_⟩ <;> (first | exact Bk.cell BkC.out rfl | (simp [go_sem]; done))) (fail)
  go_upto_region 19 with fail
  go_region_held3 (fun W => W.cell? ⟨r, 0, none⟩ = some (.string houB) ∧ W.cell? ⟨r, 1, none⟩ = some (.int .i64 35)) (refine ⟨?_, ?_⟩ <;> (first | exact Bk.cell BkC.out rfl | (simp [go_sem]; done))) (first | (go_at_call 111; (with_reducible refine Calls.mono (hRead (VW.out _ GS.out) (Nat.le_trans H10.out (GS.out (v := w) (S := [r])).size)) ?_); rintro e wr1 ⟨g1, cap1, rfl, _, _, hu⟩))
  all_goals
    have f1 := (inferInstance : BkC wr1 r _ 131).out.free 1
    have l1 : w.heap.size < w5.heap.size := (inferInstance : Has w5 w.heap.size).lt
    haveI : Up w.heap.size w5.heap.size := ⟨Nat.le_of_lt l1⟩
    have l2 : r < w5.heap.size := (inferInstance : Has w5 r).lt
    have l3 : ¬ w.heap.size = w5.heap.size := by omega
    have l4 : ¬ w5.heap.size = w.heap.size := by omega
    haveI hup : Up w.heap.size g1 := ⟨Nat.le_trans (Keeps.size (GS.out (v := w) (S := [r]))) hu.out⟩
    have cz := (inferInstance : BkC wr1 w.heap.size _ 29).out.cell (i := 0) rfl
    have fz := (inferInstance : BkC wr1 w.heap.size _ 29).out.free 0
    go_upto_region 26 with fail
    go_region
    all_goals
      go_wp2_with fail
      refine ret_tct rfl rfl rfl (by rfl) (by rfl) (by rfl) ?_
      exact ⟨g1, cap1, rfl, inferInstance, inferInstance, ⟨GS.out⟩, ⟨Up.out⟩⟩
end
section
open Go.RowKit
theorem ba_ext {a b : ByteArray} (e : a.data.toList = b.data.toList) : a = b := by
  cases a
  cases b
  simpa using e
theorem aboveE : houB.extract 0 174 = ⟨hou2.toArray⟩ := ba_ext (by decide +kernel)
theorem sumE : houB.extract 178 194 = houX := ba_ext (by decide +kernel)
theorem hexE (j : Nat) (h : j < 16) : ∃ c : UInt8, houB.extract (178 + j) (178 + j + 1) = ⟨#[c]⟩ ∧ decide ((0 : Int) ≤ Lib.indexByte (⟨#[48, 49, 50, 51, 52, 53, 54, 55, 56, 57, 97, 98, 99, 100, 101, 102]⟩ : ByteArray).data.toList c) = true := by
  have H : ∀ k : Fin 16, ((houB.extract (178 + k.1) (178 + k.1 + 1)).data.toList.length = 1 ∧ (houB.extract (178 + k.1) (178 + k.1 + 1)).data.toList.all (fun c => decide ((0 : Int) ≤ Lib.indexByte (⟨#[48, 49, 50, 51, 52, 53, 54, 55, 56, 57, 97, 98, 99, 100, 101, 102]⟩ : ByteArray).data.toList c)) = true) := by decide +kernel
  obtain ⟨h1, h2⟩ := H ⟨j, h⟩
  generalize hx : houB.extract (178 + j) (178 + j + 1) = x at h1 h2 ⊢
  obtain ⟨c, hc⟩ := List.length_eq_one_iff.1 h1
  refine ⟨c, ba_ext hc, ?_⟩
  rw [hc] at h2
  simpa using h2
theorem kp0_b {w w' : World} (h : Below w.heap.size w w') : Kp0 w w' := ⟨h⟩
set_option synthInstance.maxHeartbeats 2000000 in
set_option synthInstance.maxSize 100000 in
set_option maxRecDepth 100000 in
set_option maxHeartbeats 16000000 in
theorem hEnd {w : World} {r : Nat} [hr : BkC w r [.string houB, .int .i64 174] 131] (V : Vars w) (h10 : 10 ≤ w.heap.size) (hr10 : 10 ≤ r) : Calls Tryz.prog 70 #[.pointer (some ⟨r, 0, none⟩)] w fun e w' => e = .returned (.pointer none) ∧ KpS w [r] w' := by
  have VW := hid (fun (W : World) (hg : Keeps w.heap.size [r] w W) => V.keep hg h10 (by simpa using hr10))
  have H10 := hid h10
  have hsz := houB_size
  have q1 : ∀ W : World, (Instr.slice 9 (.string houB) none (some (.int .i64 174)) none).run Tryz.prog W = .ok (.string ⟨hou2.toArray⟩) W := fun W => (run_slice_string_h W 9 houB Tryz.underlying9 .i64 174 (by decide) (by rw [hsz]; decide)).trans (by rw [show (174 : Int).toNat = 174 from rfl, aboveE])
  have q2 : ∀ W : World, (Instr.slice 9 (.string houB) (some (.int .i64 178)) (some (.int .i64 194)) none).run Tryz.prog W = .ok (.string houX) W := fun W => (run_slice_string W 9 houB .i64 .i64 178 194 Tryz.underlying9 (by decide) (by decide) (by rw [hsz]; decide)).trans (by rw [show (178 : Int).toNat = 178 from rfl, show (194 : Int).toNat = 194 from rfl, sumE])
  have hq3 : IntKind.i64.wrap 194 = 194 := by decide
  have hq4 : IntKind.i64.wrap (178 + 16) = 194 := by decide
  have HSZ := hid hsz
  have d0 := hr.out.cell (i := 0) rfl
  have d1 := hr.out.cell (i := 1) rfl
  clear V h10 hsz
  go_enter Tryz.func70, Tryz.ntmps70
  go_wp2_with fail
  go_region_held3 (fun W => W.cell? ⟨r, 0, none⟩ = some (.string houB) ∧ W.cell? ⟨r, 1, none⟩ = some (.int .i64 174)) (refine ⟨?_, ?_⟩ <;> (first | exact Bk.cell BkC.out rfl | (simp [go_sem]; done))) (fail)
  go_wp2_with (go_at_call 67; (with_reducible refine Calls.mono (hWordB (i := 174) (j := 178) (I := 174) (J := 178) [⟨#[115, 117, 109]⟩, ⟨#[32]⟩] rfl rfl rfl rfl (by decide) (by rw [houB_size]; decide) (by rw [houB_size]; decide) (by decide +kernel)) ?_); rintro e w1 ⟨rfl, _, _⟩; have d0 := (inferInstance : BkC w1 r _ 131).out.cell (i := 0) rfl; have d1 := (inferInstance : BkC w1 r _ 131).out.cell (i := 1) rfl)
  go_loopw [27] (fun s27 wx => ∃ j : Nat, s27 = .int .i64 j ∧ j ≤ 16 ∧ BkC wx r [.string houB, .int .i64 178] 131 ∧ KpS w [r] wx) (fun s27 _ => 16 - (intOf s27).toNat)
  case atStart => exact ⟨0, rfl, Nat.zero_le _, inferInstance, ⟨GS.out⟩⟩
  case round =>
    obtain ⟨j, rfl, hj, ib, ik⟩ := hrel
    have d0 := ib.out.cell (i := 0) rfl
    have d1 := ib.out.cell (i := 1) rfl
    have f1 := ib.out.free 1
    by_cases hl : j < 16
    · obtain ⟨c, hc, hb⟩ := hexE j hl
      have n0 : (j : Int) < 16 := by omega
      have n1 : ¬ ((houB.size : Int) ≤ 178 + (j : Int)) := by have := HSZ.out; omega
      have q3 : ∀ W : World, (Instr.slice 9 (.string houB) (some (.int .i64 (178 + (j : Int)))) (some (.int .i64 (178 + (j : Int) + 1))) none).run Tryz.prog W = .ok (.string ⟨#[c]⟩) W := fun W => (run_slice_string W 9 houB .i64 .i64 (178 + (j : Int)) (178 + (j : Int) + 1) Tryz.underlying9 (by omega) (by omega) (by have := HSZ.out; omega)).trans (by rw [show (178 + (j : Int)).toNat = 178 + j by omega, show (178 + (j : Int) + 1).toNat = 178 + j + 1 by omega, hc])
      have CO := hid (fun W : World => Tryz.strings_Contains_one ⟨#[48, 49, 50, 51, 52, 53, 54, 55, 56, 57, 97, 98, 99, 100, 101, 102]⟩ c W)
      rw [hb] at CO
      clear hc hb
      go_wp2_with (go_at_call 112; (with_reducible refine Calls.mono (CO.out _) ?_); rintro e wc ⟨rfl, hw⟩; obtain rfl := hw.symm)
      go_round
      case rel => exact ⟨j + 1, rfl, by omega, ib, ik⟩
      case measure => simp [intOf]; omega
    · obtain rfl : j = 16 := by omega
      have n5 : ¬ ((195 : Int) < (houB.size : Int)) := by have := HSZ.out; omega
      go_wp2_with (go_at_call 67; (with_reducible refine Calls.mono (hWordB (i := 194) (j := 195) (I := 194) (J := 195) [⟨#[10]⟩] rfl rfl rfl rfl (by decide) (by rw [houB_size]; decide) (by rw [houB_size]; decide) (by decide +kernel)) ?_); rintro e w2 ⟨rfl, _, _⟩; have d0 := (inferInstance : BkC w2 r _ 131).out.cell (i := 0) rfl; have d1 := (inferInstance : BkC w2 r _ 131).out.cell (i := 1) rfl)
      go_region_held3 (fun W => W.cell? ⟨r, 0, none⟩ = some (.string houB) ∧ W.cell? ⟨r, 1, none⟩ = some (.int .i64 195)) (refine ⟨?_, ?_⟩ <;> (first | exact Bk.cell BkC.out rfl | (simp [go_sem]; done))) (fail)
      go_upto_region 18 with fail
      go_region_held3 (fun W => W.cell? ⟨r, 0, none⟩ = some (.string houB)) (first | exact Bk.cell BkC.out rfl | (simp [go_sem]; done)) (first | (go_at_call 33; (with_reducible refine Calls.mono (hSum (s := ⟨hou2.toArray⟩) (by decide +kernel) (VW.out _ GS.out) (Nat.le_trans H10.out (Keeps.size (GS.out (v := w) (S := [r]))))) ?_); rintro e wm ⟨rfl, hm1⟩; haveI hm2 := kp0_b hm1; rw [show (⟨(hexW 16 (sumS (⟨hou2.toArray⟩ : ByteArray).data.toList)).toArray⟩ : ByteArray) = houX from rfl]))
      all_goals
        go_wp2_with fail
        go_ret
        exact ⟨rfl, ⟨GS.out⟩⟩
end
section
open Go.RowKit
open Go.Maps Go.ChangeMaps
/-- A whole number as a float. -/
abbrev flI (k : Nat) : Nat := floatOfInt .f64 (k : Int)
/-- A crowd's name. -/
def nlB (n m : Nat) : ByteArray := (⟨#[120]⟩ ++ Utf8.encode (97 + (n : Int))) ++ Utf8.encode (97 + (m : Int))
def nlL (n m : Nat) : List UInt8 := [120, UInt8.ofNat (97 + n), UInt8.ofNat (97 + m)]
theorem enc_small (n : Nat) (h : n < 8) : Utf8.encode (97 + (n : Int)) = ⟨#[UInt8.ofNat (97 + n)]⟩ := by
  have H : ∀ k : Fin 8, Utf8.encode (97 + (k.1 : Int)) = ⟨#[UInt8.ofNat (97 + k.1)]⟩ := by decide +kernel
  exact H ⟨n, h⟩
theorem nlB_list {n m : Nat} (hn : n < 8) (hm : m < 8) : (nlB n m).data.toList = nlL n m := by
  unfold nlB
  rw [enc_small n hn, enc_small m hm]
  rfl
theorem nlB_size {n m : Nat} (hn : n < 8) (hm : m < 8) : (nlB n m).size = 3 := by
  exact bytes_len _ _ (nlB_list hn hm)
theorem nlB_fit {n m : Nat} (hn : n < 8) (hm : m < 8) : fitL (nlB n m).data.toList = true := by
  rw [nlB_list hn hm]
  have H : ∀ (k j : Fin 8), fitL (nlL k.1 j.1) = true := by decide +kernel
  exact H ⟨n, hn⟩ ⟨m, hm⟩
theorem nlL_inj {n m n' m' : Nat} (hn : n < 8) (hm : m < 8) (hn' : n' < 8) (hm' : m' < 8) : nlL n m = nlL n' m' ↔ n = n' ∧ m = m' := by
  have H : ∀ (k j k' j' : Fin 8), nlL k.1 j.1 = nlL k'.1 j'.1 → k.1 = k'.1 ∧ j.1 = j'.1 := by decide +kernel
  refine ⟨fun h => H ⟨n, hn⟩ ⟨m, hm⟩ ⟨n', hn'⟩ ⟨m', hm'⟩ h, ?_⟩
  rintro ⟨rfl, rfl⟩
  rfl
/-- The last strength of a name. -/
def lastv (h m : Nat) : Nat := h - 1 - (h - 1 - m) % 8
def stv (h n m : Nat) : Option (Nat × Nat) := if m < h then some (flI n, flI (lastv h m)) else none
def total : List Nat → Nat
  | [] => 0
  | c :: r => min 8 c + total r
theorem total_set : ∀ (l : List Nat) (i : Nat) (h : i < l.length), total (l.set i (l[i] + 1)) = total l + (if l[i] < 8 then 1 else 0)
  | c :: r, 0, _ => by
    simp only [List.set_cons_zero, total, List.getElem_cons_zero]
    split <;> omega
  | c :: r, i + 1, h => by
    simp only [List.set_cons_succ, total, List.getElem_cons_succ]
    have := total_set r i (by simpa using h)
    rw [this]
    omega
theorem total_le : ∀ l : List Nat, total l ≤ 8 * l.length
  | [] => by simp [total]
  | c :: r => by
    have := total_le r
    simp only [total, List.length_cons]
    omega
theorem total_lt : ∀ (l : List Nat) (i : Nat) (h : i < l.length), l[i] < 8 → total l < 8 * l.length
  | c :: r, 0, _, h8 => by
    have := total_le r
    simp only [total, List.length_cons, List.getElem_cons_zero] at *
    omega
  | c :: r, i + 1, h, h8 => by
    have := total_lt r i (by simpa using h) (by simpa using h8)
    simp only [total, List.length_cons] at *
    omega
/-- What a crowd has put. -/
def Crd (F : List UInt8 → Option (Nat × Nat)) (cnt : List Nat) : Prop := ∀ n m, n < 8 → m < 8 → F (nlL n m) = stv (cnt.getD n 0) n m
theorem crd_put {F : List UInt8 → Option (Nat × Nat)} {cnt : List Nat} (h : Crd F cnt) (hl : cnt.length = 8) {i c : Nat} (hi : i < 8) (hc : cnt.getD i 0 = c) :
    Crd (fun q => if q = nlL i (c % 8) then some (flI i, flI c) else F q) (cnt.set i (c + 1)) := by
  intro n m hn hm
  have hk : c % 8 < 8 := Nat.mod_lt _ (by decide)
  show (if nlL n m = nlL i (c % 8) then _ else _) = _
  rw [h n m hn hm]
  simp only [nlL_inj hn hm hi hk]
  have hg : (cnt.set i (c + 1)).getD n 0 = if i = n then c + 1 else cnt.getD n 0 := by
    simp only [List.getD_eq_getElem?_getD, List.getElem?_set]
    split
    · rename_i e
      rw [if_pos (by omega)]
      rfl
    · rfl
  rw [hg]
  by_cases e : i = n
  · subst e
    rw [if_pos rfl, hc]
    by_cases e2 : m = c % 8
    · subst e2
      rw [if_pos ⟨rfl, rfl⟩]
      unfold stv lastv
      rw [if_pos (by omega), show c + 1 - 1 - (c + 1 - 1 - c % 8) % 8 = c by omega]
    · rw [if_neg (fun h => e2 h.2)]
      unfold stv lastv
      by_cases hlt : m < c
      · rw [if_pos hlt, if_pos (by omega), show c + 1 - 1 - (c + 1 - 1 - m) % 8 = c - 1 - (c - 1 - m) % 8 by omega]
      · rw [if_neg hlt, if_neg (by omega)]
  · rw [if_neg (fun h => e h.1.symm), if_neg e]
theorem flI_wit (k : Nat) (h : k ≤ 200) : (flI k < 18446744073709551616) ∧ witB (flI k) = true := by
  have H : ∀ k : Fin 201, (flI k.1 < 18446744073709551616) ∧ witB (flI k.1) = true := by decide +kernel
  exact H ⟨k, by omega⟩
theorem flI_ok {n k : Nat} (hn : n ≤ 200) (hk : k ≤ 200) : OkS (flI n, flI k) := ⟨⟨(flI_wit n hn).1, (flI_wit k hk).1⟩, (flI_wit n hn).2, (flI_wit k hk).2⟩
theorem flI_eq (k : Nat) (h : k ≤ 200) : (FloatKind.f64.format.order (flI k) (flI k) == some Ordering.eq) = true := by
  have H : ∀ k : Fin 201, (FloatKind.f64.format.order (flI k.1) (flI k.1) == some Ordering.eq) = true := by decide +kernel
  exact H ⟨k, by omega⟩
theorem lastv_le (h m : Nat) (hh : h ≤ 200) : lastv h m ≤ 200 := by unfold lastv; omega
end
end Go.Proofs.YtmjpfoninpbgiaaGreatDoor
