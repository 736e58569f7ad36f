/- A flow's element is asked. What a flow's elements tell is added up. The text of the examples' stream; a builder's bytes. Save. Words that a house's save has. A whole number that a house's save has. A name that a house's save has. The examples' stream, read. Words, numbers and the name of the examples' save. The examples' flow, read. The end of the examples' save, read. -/
import Derived.Test.YtmjpfoninpbgiaaGreatDoorC07
import Derived.Test.YtmjpfoninpbgiaaGreatDoorShelf
import Derived.Shelf.Strings.BuilderF
import Derived.Shelf.Strings.SlTrimAscii
set_option linter.unusedSimpArgs false
set_option linter.unusedVariables false
namespace Go.Proofs.YtmjpfoninpbgiaaGreatDoor
section
open Go.RowKit
set_option synthInstance.maxHeartbeats 2000000 in
set_option synthInstance.maxSize 100000 in
set_option maxRecDepth 100000 in
set_option maxHeartbeats 16000000 in
theorem hPot {w : World} : Calls Tryz.prog 118 #[.agg #[.int .u8 1, .complex .f64 0 0, .complex .f64 4611686018427387904 4607182418800017408, .float .f64 0], .complex .f64 0 0] w fun e w' => e = .returned (.tuple #[.complex .f64 0 0, .int .i64 0]) ∧ Kp0 w w' := by
  go_enter Tryz.func118, Tryz.ntmps118
  go_wp2_with (go_at_call 163; (with_reducible refine Calls.mono hValue0 ?_); rintro e wc ⟨rfl, _⟩)
  go_ret2
  exact ⟨rfl, ⟨Gr.out⟩⟩
set_option synthInstance.maxHeartbeats 2000000 in
set_option synthInstance.maxSize 100000 in
set_option maxRecDepth 100000 in
set_option maxHeartbeats 16000000 in
theorem hPotOne {w : World} {g b cap : Nat} {al : Value} [hg : BkC w g [.int .u8 1, .complex .f64 0 0, .complex .f64 4611686018427387904 4607182418800017408, .float .f64 0, .slice (some ⟨b, 0, none⟩) 1 cap, al] 147] : Calls Tryz.prog 75 #[.pointer (some ⟨g, 0, none⟩), .complex .f64 0 0] w fun e w' => e = .returned (.tuple #[.complex .f64 0 0, .int .i64 0]) ∧ Kp0 w w' := by
  have c0 := hg.out.cell (i := 0) rfl
  have c1 := hg.out.cell (i := 1) rfl
  have c2 := hg.out.cell (i := 2) rfl
  have c3 := hg.out.cell (i := 3) rfl
  go_enter Tryz.func75, Tryz.ntmps75
  go_wp2_with (go_at_call 118; (with_reducible refine Calls.mono hPot ?_); rintro e wc ⟨rfl, _⟩)
  go_ret2
  exact ⟨rfl, ⟨Gr.out⟩⟩
set_option synthInstance.maxHeartbeats 2000000 in
set_option synthInstance.maxSize 100000 in
set_option maxRecDepth 100000 in
set_option maxHeartbeats 16000000 in
theorem hSpd {w : World} : Calls Tryz.prog 119 #[.agg #[.int .u8 1, .complex .f64 0 0, .complex .f64 4611686018427387904 4607182418800017408, .float .f64 0], .complex .f64 0 0] w fun e w' => e = .returned (.tuple #[.complex .f64 4611686018427387904 4607182418800017408, .int .i64 0]) ∧ Kp0 w w' := by
  go_enter Tryz.func119, Tryz.ntmps119
  go_wp2_with (go_at_call 163; (with_reducible refine Calls.mono hValue1 ?_); rintro e wc ⟨rfl, _⟩)
  go_ret2
  exact ⟨rfl, ⟨Gr.out⟩⟩
set_option synthInstance.maxHeartbeats 2000000 in
set_option synthInstance.maxSize 100000 in
set_option maxRecDepth 100000 in
set_option maxHeartbeats 16000000 in
theorem hSpdOne {w : World} {g b cap : Nat} {al : Value} [hg : BkC w g [.int .u8 1, .complex .f64 0 0, .complex .f64 4611686018427387904 4607182418800017408, .float .f64 0, .slice (some ⟨b, 0, none⟩) 1 cap, al] 147] : Calls Tryz.prog 76 #[.pointer (some ⟨g, 0, none⟩), .complex .f64 0 0] w fun e w' => e = .returned (.tuple #[.complex .f64 4611686018427387904 4607182418800017408, .int .i64 0]) ∧ Kp0 w w' := by
  have c0 := hg.out.cell (i := 0) rfl
  have c1 := hg.out.cell (i := 1) rfl
  have c2 := hg.out.cell (i := 2) rfl
  have c3 := hg.out.cell (i := 3) rfl
  go_enter Tryz.func76, Tryz.ntmps76
  go_wp2_with (go_at_call 119; (with_reducible refine Calls.mono hSpd ?_); rintro e wc ⟨rfl, _⟩)
  go_ret2
  exact ⟨rfl, ⟨Gr.out⟩⟩
end
section
open Go.RowKit
theorem info145z : (Tryz.prog.info? 31).map (fun i => (i.zero, i.size, i.bytes)) = some (some (.complex .f64 0 0), 1, 16) := by kernel_rfl
theorem und145z : Tryz.prog.underlying 145 = some (.slice 31) := by kernel_rfl
def ECx (_ : World) (u : Value) (x : Nat × Nat) : Prop := u = .complex .f64 x.1 x.2
theorem kp0_of {w w' : World} (h : ∀ v0 : World, v0.heap.size ≤ w.heap.size → Below v0.heap.size v0 w → Below v0.heap.size v0 w') : Kp0 w w' := ⟨h w (Nat.le_refl _) (Below.refl _ _)⟩
theorem upW_of {w : World} {g : Nat} (h : w.heap.size ≤ g) : UpW w g := ⟨h⟩
theorem ox_cx {B : Nat} {w : World} {g c : Nat} {x : Nat × Nat} (h : Ox 31 ECx B w (.slice (some ⟨g, 0, none⟩) 1 c) [x]) : w.cell? ⟨g, 0, none⟩ = some (.complex .f64 x.1 x.2) := by
  obtain ⟨g1, off, u, h1, -, h3, h4⟩ := h.rw.at (i := 0) rfl
  simp only [Option.some.injEq, Addr.mk.injEq] at h1
  obtain ⟨rfl, rfl, -⟩ := h1
  rw [h4] at h3
  exact h3
theorem row_cx {w : World} {g : Nat} {x : Nat × Nat} (h : Bk w g [.complex .f64 x.1 x.2] 31) : Rw 31 ECx w (.slice (some ⟨g, 0, none⟩) 1 1) [x] := ⟨_, _, rfl, Nat.le_refl _, fun _ => ⟨_, 0, _, rfl, h, fun i y hx => by
  rcases i with _ | i
  · exact ⟨_, rfl, by simp at hx; rw [← hx]; rfl⟩
  · simp at hx⟩⟩
theorem eok_cx (T : Nat) : EOk T ECx := ⟨fun h _ => h, fun _ _ h => h, fun h => by rw [h]; rfl⟩
set_option synthInstance.maxHeartbeats 2000000 in
set_option synthInstance.maxSize 100000 in
set_option maxRecDepth 100000 in
set_option maxHeartbeats 16000000 in
theorem hPotOver {w : World} {g b cap : Nat} [hg : BkC w g [.int .u8 0, .complex .f64 0 0, .complex .f64 0 0, .float .f64 0, .slice (some ⟨b, 0, none⟩) 1 cap, .slice none 0 0] 147] [hb : FsC w b (4611686018427387904, 4607182418800017408)] : Calls Tryz.prog 74 #[.pointer (some ⟨g, 0, none⟩), .complex .f64 0 0, .func (.func 75) #[.pointer (some ⟨g, 0, none⟩)] #[]] w fun e w' => e = .returned (.tuple #[.complex .f64 0 0, .int .i64 0]) ∧ KpS w [g] w' := by
  haveI := okS21
  have c4 := hg.out.cell (i := 4) rfl
  have c5 := hg.out.cell (i := 5) rfl
  have C := hid (fun W : World => fun [FsC W b (4611686018427387904, 4607182418800017408)] => hCheck (s := (4611686018427387904, 4607182418800017408)) (g := b) (cap := cap) (w := W))
  have P := hid (fun W : World => hPlace (x := 0) (y := 0) (w := W) (by decide) (by decide) wit0 wit0)
  have F := hid (fun W : World => hPFinite (x := 0) (y := 0) (w := W) (by decide) (by decide))
  rw [fin0] at F
  obtain ⟨ti, hti, htz, hts, htb⟩ := info_parts info145z
  go_enter Tryz.func74, Tryz.ntmps74
  go_wp2_with (first | (go_at_call 22; (with_reducible refine Calls.mono (C.out _) ?_); rintro e wc ⟨rfl, _⟩) | (go_at_call 115; (with_reducible refine Calls.mono (P.out _) ?_); rintro e w' ⟨rfl, hw⟩; obtain rfl := hw.symm))
  go_loopw [34] (fun s34 wx => ∃ j : Int, s34 = .int .i64 j ∧ (j = 0 ∧ BkC wx g [.int .u8 0, .complex .f64 0 0, .complex .f64 0 0, .float .f64 0, .slice (some ⟨b, 0, none⟩) 1 cap, .slice none 0 0] 147 ∧ Kp0 w wx ∨ j = 1 ∧ ∃ h c : Nat, BkC wx g [.int .u8 1, .complex .f64 0 0, .complex .f64 4611686018427387904 4607182418800017408, .float .f64 0, .slice (some ⟨b, 0, none⟩) 1 cap, .slice (some ⟨h, 0, none⟩) 1 c] 147 ∧ wx.cell? ⟨h, 0, none⟩ = some (.complex .f64 0 0) ∧ KpS w [g] wx)) (fun s34 _ => 1 - (intOf s34).toNat)
  case atStart => exact ⟨0, rfl, .inl ⟨rfl, inferInstance, ⟨Gr.out⟩⟩⟩
  case round =>
    obtain ⟨j, rfl, hj⟩ := hrel
    rcases hj with ⟨rfl, ig, ik⟩ | ⟨rfl, h, c, ig, hc, ik⟩
    · have d0 := (inferInstance : FsC wr b (4611686018427387904, 4607182418800017408)).out.cell (i := 0) rfl
      have d1 := (inferInstance : FsC wr b (4611686018427387904, 4607182418800017408)).out.cell (i := 1) rfl
      have d2 := (inferInstance : FsC wr b (4611686018427387904, 4607182418800017408)).out.cell (i := 2) rfl
      have d3 := (inferInstance : FsC wr b (4611686018427387904, 4607182418800017408)).out.cell (i := 3) rfl
      have e0 := ig.out.cell (i := 0) rfl
      have e1 := ig.out.cell (i := 1) rfl
      have e2 := ig.out.cell (i := 2) rfl
      have e3 := ig.out.cell (i := 3) rfl
      have e5 := ig.out.cell (i := 5) rfl
      have f0 := ig.out.free 0
      have f1 := ig.out.free 1
      have f2 := ig.out.free 2
      have f3 := ig.out.free 3
      have f5 := ig.out.free 5
      go_wp2_with (first | (go_at_call 75; (with_reducible refine Calls.mono (hPotOne (g := g) (b := b) (cap := cap) (al := .slice none 0 0)) ?_); rintro e wc ⟨rfl, _⟩) | (at_builtin; go_loud (refine app_row (eok_cx 31) rfl _ _ 145 rfl _ ti _ 16 und145z hti htz hts htb rfl (by decide) rfl (Ox.nil _ _) rfl (m := [(0, 0)]) (row_cx (inferInstance : BkC _ _ _ _).out) (by decide) (by decide) (Nat.le_refl _) ?_; intro g' cap' n' wa hn' ho' hg' hbl hkE; obtain rfl : n' = 1 := hn'; haveI hwa := kp0_of hbl; haveI hug := upW_of hg'; clear hkE)))
      go_round
      case rel => exact ⟨1, rfl, .inr ⟨rfl, g', cap', inferInstance, (World.cell?_of_block (block_ne _ _ _ _ _ (Ne.symm (inferInstance : NeN g g').out))).trans (ox_cx ho'), ⟨GS.out⟩⟩⟩
      case measure => simp [intOf]
    · have e5 := ig.out.cell (i := 5) rfl
      go_wp2_with (first | (go_at_call 116; (with_reducible refine Calls.mono (hSumOne hc) ?_); rintro e wc ⟨rfl, hw⟩; obtain rfl := hw.symm) | (go_at_call 117; (with_reducible refine Calls.mono (F.out _) ?_); rintro e w' ⟨rfl, hw⟩; obtain rfl := hw.symm))
      go_ret2
      exact ⟨rfl, ⟨GS.out⟩⟩
set_option synthInstance.maxHeartbeats 2000000 in
set_option synthInstance.maxSize 100000 in
set_option maxRecDepth 100000 in
set_option maxHeartbeats 16000000 in
theorem hSpdOver {w : World} {g b cap : Nat} [hg : BkC w g [.int .u8 0, .complex .f64 0 0, .complex .f64 0 0, .float .f64 0, .slice (some ⟨b, 0, none⟩) 1 cap, .slice none 0 0] 147] [hb : FsC w b (4611686018427387904, 4607182418800017408)] : Calls Tryz.prog 74 #[.pointer (some ⟨g, 0, none⟩), .complex .f64 0 0, .func (.func 76) #[.pointer (some ⟨g, 0, none⟩)] #[]] w fun e w' => e = .returned (.tuple #[.complex .f64 4611686018427387904 4607182418800017408, .int .i64 0]) ∧ KpS w [g] w' := by
  haveI := okS21
  have c4 := hg.out.cell (i := 4) rfl
  have c5 := hg.out.cell (i := 5) rfl
  have C := hid (fun W : World => fun [FsC W b (4611686018427387904, 4607182418800017408)] => hCheck (s := (4611686018427387904, 4607182418800017408)) (g := b) (cap := cap) (w := W))
  have P := hid (fun W : World => hPlace (x := 0) (y := 0) (w := W) (by decide) (by decide) wit0 wit0)
  have F := hid (fun W : World => hPFinite (x := 4611686018427387904) (y := 4607182418800017408) (w := W) (by decide) (by decide))
  rw [finS2, finS1] at F
  obtain ⟨ti, hti, htz, hts, htb⟩ := info_parts info145z
  go_enter Tryz.func74, Tryz.ntmps74
  go_wp2_with (first | (go_at_call 22; (with_reducible refine Calls.mono (C.out _) ?_); rintro e wc ⟨rfl, _⟩) | (go_at_call 115; (with_reducible refine Calls.mono (P.out _) ?_); rintro e w' ⟨rfl, hw⟩; obtain rfl := hw.symm))
  go_loopw [34] (fun s34 wx => ∃ j : Int, s34 = .int .i64 j ∧ (j = 0 ∧ BkC wx g [.int .u8 0, .complex .f64 0 0, .complex .f64 0 0, .float .f64 0, .slice (some ⟨b, 0, none⟩) 1 cap, .slice none 0 0] 147 ∧ Kp0 w wx ∨ j = 1 ∧ ∃ h c : Nat, BkC wx g [.int .u8 1, .complex .f64 0 0, .complex .f64 4611686018427387904 4607182418800017408, .float .f64 0, .slice (some ⟨b, 0, none⟩) 1 cap, .slice (some ⟨h, 0, none⟩) 1 c] 147 ∧ wx.cell? ⟨h, 0, none⟩ = some (.complex .f64 4611686018427387904 4607182418800017408) ∧ KpS w [g] wx)) (fun s34 _ => 1 - (intOf s34).toNat)
  case atStart => exact ⟨0, rfl, .inl ⟨rfl, inferInstance, ⟨Gr.out⟩⟩⟩
  case round =>
    obtain ⟨j, rfl, hj⟩ := hrel
    rcases hj with ⟨rfl, ig, ik⟩ | ⟨rfl, h, c, ig, hc, ik⟩
    · have d0 := (inferInstance : FsC wr b (4611686018427387904, 4607182418800017408)).out.cell (i := 0) rfl
      have d1 := (inferInstance : FsC wr b (4611686018427387904, 4607182418800017408)).out.cell (i := 1) rfl
      have d2 := (inferInstance : FsC wr b (4611686018427387904, 4607182418800017408)).out.cell (i := 2) rfl
      have d3 := (inferInstance : FsC wr b (4611686018427387904, 4607182418800017408)).out.cell (i := 3) rfl
      have e0 := ig.out.cell (i := 0) rfl
      have e1 := ig.out.cell (i := 1) rfl
      have e2 := ig.out.cell (i := 2) rfl
      have e3 := ig.out.cell (i := 3) rfl
      have e5 := ig.out.cell (i := 5) rfl
      have f0 := ig.out.free 0
      have f1 := ig.out.free 1
      have f2 := ig.out.free 2
      have f3 := ig.out.free 3
      have f5 := ig.out.free 5
      go_wp2_with (first | (go_at_call 76; (with_reducible refine Calls.mono (hSpdOne (g := g) (b := b) (cap := cap) (al := .slice none 0 0)) ?_); rintro e wc ⟨rfl, _⟩) | (at_builtin; go_loud (refine app_row (eok_cx 31) rfl _ _ 145 rfl _ ti _ 16 und145z hti htz hts htb rfl (by decide) rfl (Ox.nil _ _) rfl (m := [(4611686018427387904, 4607182418800017408)]) (row_cx (inferInstance : BkC _ _ _ _).out) (by decide) (by decide) (Nat.le_refl _) ?_; intro g' cap' n' wa hn' ho' hg' hbl hkE; obtain rfl : n' = 1 := hn'; haveI hwa := kp0_of hbl; haveI hug := upW_of hg'; clear hkE)))
      go_round
      case rel => exact ⟨1, rfl, .inr ⟨rfl, g', cap', inferInstance, (World.cell?_of_block (block_ne _ _ _ _ _ (Ne.symm (inferInstance : NeN g g').out))).trans (ox_cx ho'), ⟨GS.out⟩⟩⟩
      case measure => simp [intOf]
    · have e5 := ig.out.cell (i := 5) rfl
      go_wp2_with (first | (go_at_call 116; (with_reducible refine Calls.mono (hSumOne hc) ?_); rintro e wc ⟨rfl, hw⟩; obtain rfl := hw.symm) | (go_at_call 117; (with_reducible refine Calls.mono (F.out _) ?_); rintro e w' ⟨rfl, hw⟩; obtain rfl := hw.symm))
      go_ret2
      exact ⟨rfl, ⟨GS.out⟩⟩
end
section
open Go.RowKit
/-- The stream of the house's examples, and its text. -/
def elA : El := (1, (0, 0), (4611686018427387904, 4607182418800017408), 0)
def saveL : By := flowW [elA]
def saveT : ByteArray := ⟨saveL.toArray⟩
theorem flowO_A : flowO [elA] = (saveL, 0) := by decide +kernel
theorem saveT_size : saveT.size = 139 := by decide +kernel
set_option synthInstance.maxHeartbeats 2000000 in
set_option synthInstance.maxSize 100000 in
set_option maxRecDepth 100000 in
set_option maxHeartbeats 16000000 in
theorem hSaveFlow {w : World} {g cap : Nat} [hf : FsC w g (4611686018427387904, 4607182418800017408)] (V : Vars w) (h10 : 10 ≤ w.heap.size) : Calls Tryz.prog 32 #[.agg #[.slice (some ⟨g, 0, none⟩) 1 cap]] w fun e w' => e = .returned (.tuple #[.string saveT, .int .i64 0]) ∧ Kp0 w w' := by
  have h := flow_w [elA] (by
    intro x hx
    rw [List.mem_singleton] at hx
    subst hx
    refine ⟨by decide, ?_, ?_, ?_, ?_, ?_⟩ <;> (unfold fits; decide)) (by decide) (some ⟨g, 0, none⟩) cap w V h10 (fun _ => ⟨g, rfl, fun i hi => by
      have h4 : i < 4 := hi
      have hx : (elS (4611686018427387904, 4607182418800017408))[i]? = some ((elS (4611686018427387904, 4607182418800017408))[i]'h4) := List.getElem?_eq_getElem h4
      rw [hf.out.cell hx]
      exact hx.symm⟩)
  rw [flowO_A] at h
  refine Calls.mono h ?_
  rintro e w' ⟨rfl, hb⟩
  exact ⟨rfl, ⟨hb⟩⟩
theorem hWrite (B b : Nat) (bs : List Value) (s : ByteArray) (w : World) (h : Lib.IsBuilderF 84 5 B b bs w) (hlen : bs.length + s.size ≤ 140737488355328) (hBw : B ≤ w.heap.size) :
    Calls Tryz.prog 30 #[.pointer (some ⟨b, 0, none⟩), .string s] w fun e w' => e = .returned (.tuple #[.int .i64 s.size, .nilIface]) ∧ (Lib.BuilderAtF 84 5 B b (.pointer (some ⟨b, 0, none⟩)) (bs ++ Lib.strCells s) w' ∧ Below B w w') :=
  Any.Builder_WriteString_f { Tryz.lays105 with } Tryz.Builder_Extra_105 B b bs s w h hlen hBw
theorem byteCells_app (l m : List UInt8) : Lib.byteCells l ++ Lib.byteCells m = Lib.byteCells (l ++ m) := by
  unfold Lib.byteCells
  rw [List.map_append]
theorem byteCells_str (s : ByteArray) : Lib.strCells s = Lib.byteCells s.data.toList := by
  unfold Lib.strCells Lib.byteCells
  rfl
end
section
open Go.RowKit
open Go.Sort
/-- A builder that holds these bytes. -/
class BuC (w : World) (b : Nat) (l : outParam (List UInt8)) : Prop where
  out : Lib.IsBuilderF 84 5 b b (Lib.byteCells l) w
theorem builder_below {w w' : World} {B b : Nat} {p : Value} {bs : List Value} (h : Lib.BuilderAtF 84 5 B b p bs w) (k : Below w.heap.size w w') : Lib.BuilderAtF 84 5 B b p bs w' := by
  obtain ⟨hB, v, hb, ⟨ho1, ho2⟩, hne⟩ := h
  refine ⟨hB, v, (k.block b (lt_of_block hb)).trans hb, ⟨ho1, ?_⟩, hne⟩
  rcases ho2 with h | ⟨g, cap, cur, fz, rfl, h1, h2, h3⟩
  · exact .inl h
  · exact .inr ⟨g, cap, cur, fz, rfl, h1, (k.block g (lt_of_block h2)).trans h2, h3⟩
instance buC_kp0 (W w' : World) (b : Nat) (l : List UInt8) [k : Kp0 W w'] [h : BuC W b l] : BuC w' b l := ⟨by
  rcases h.out with h | h
  · exact .inl (builder_below h k.out)
  · exact .inr (builder_below h k.out)⟩
instance buC_alloc (w : World) (b : Nat) (l : List UInt8) (o : Obj) [h : BuC w b l] : BuC (w.alloc o) b l := ⟨by
  have k : Below w.heap.size w (w.alloc o) := (Below.refl _ _).alloc (Nat.le_refl _) _
  rcases h.out with h | h
  · exact .inl (builder_below h k)
  · exact .inr (builder_below h k)⟩
instance buC_new (w : World) : BuC (w.alloc (.cells #[.pointer none, .slice none 0 0] 84)) w.heap.size [] := ⟨.inl ⟨Nat.le_refl _, .slice none 0 0, block_at w _ _, World.ownsRowF_nil _ _ _ _, by simp [Value.ownBlock]⟩⟩
theorem wrote {w w' : World} {b : Nat} {l : List UInt8} {s : ByteArray} (h : Lib.BuilderAtF 84 5 b b (.pointer (some ⟨b, 0, none⟩)) (Lib.byteCells l ++ Lib.strCells s) w') : BuC w' b (l ++ s.data.toList) := ⟨by
  rw [byteCells_str, byteCells_app] at h
  exact .inr h⟩
theorem hWriteC {w0 W : World} {b : Nat} {l : List UInt8} {s : ByteArray} (l' : List UInt8) (hb : b = w0.heap.size) [h : BuC W b l] (hg : Below w0.heap.size w0 W) (hl : l ++ s.data.toList = l') (hlen : l'.length ≤ 1000000) :
    Calls Tryz.prog 30 #[.pointer (some ⟨b, 0, none⟩), .string s] W fun e w' => e = .returned (.tuple #[.int .i64 s.size, .nilIface]) ∧ BuC w' b l' ∧ Kp0 w0 w' := by
  subst hl
  have hs : s.size = s.data.toList.length := by simp
  rw [List.length_append] at hlen
  refine Calls.mono (hWrite b b _ s W h.out (by rw [show (Lib.byteCells l).length = l.length by simp [Lib.byteCells]]; omega) (by rw [hb]; exact hg.size)) ?_
  rintro e w' ⟨rfl, h1, h2⟩
  refine ⟨rfl, wrote (w := W) h1, ?_⟩
  rw [hb] at h2
  exact ⟨Below.trans hg h2⟩
theorem hStringC {w0 W : World} {b : Nat} {l : List UInt8} (hb : b = w0.heap.size) [h : BuC W b l] (hg : Below w0.heap.size w0 W) (h0 : l ≠ []) :
    Calls Tryz.prog 34 #[.pointer (some ⟨b, 0, none⟩)] W fun e w' => e = .returned (.string ⟨l.toArray⟩) ∧ BuC w' b l ∧ Kp0 w0 w' := by
  refine Calls.mono (Tryz.Builder_String_f b b l W h.out h0) ?_
  rintro e w' ⟨rfl, h1, h2⟩
  refine ⟨rfl, ⟨h1⟩, ?_⟩
  rw [hb] at h2
  exact ⟨Below.trans hg h2⟩
theorem hLenC {W : World} {b : Nat} {l : List UInt8} [h : BuC W b l] : Calls Tryz.prog 35 #[.pointer (some ⟨b, 0, none⟩)] W fun e w' => e = .returned (.int .i64 l.length) ∧ w' = W := by
  refine Calls.mono (Tryz.Builder_Len_f b b _ W h.out) ?_
  rintro e w' ⟨rfl, rfl⟩
  exact ⟨by simp [Lib.byteCells], rfl⟩
/-- The text of a house that has a stream by the name 'wing'. -/
def wingB : ByteArray := ⟨#[119, 105, 110, 103]⟩
def itoa1 : ByteArray := ⟨(Lib.decDigits 1).toArray⟩
def itoa139 : ByteArray := ⟨(decW 139).toArray⟩
def hou1 : By := (({ data := #[101, 100, 100, 121, 32, 104, 111, 117, 115, 101, 32, 49, 10, 110, 97, 109, 101, 115, 32] } : ByteArray) ++ itoa1 ++ { data := #[10] }).data.toList
def hou2 : By := hou1 ++ (({ data := #[102, 108, 111, 119, 32] } : ByteArray) ++ wingB ++ { data := #[32] } ++ itoa139 ++ { data := #[10] } ++ saveT).data.toList
def houX : ByteArray := ⟨(hexW 16 (sumS hou2)).toArray⟩
def hou3 : By := hou2 ++ (({ data := #[115, 117, 109, 32] } : ByteArray) ++ houX ++ { data := #[10] }).data.toList
theorem hou1_len : hou1.length = 21 := by decide +kernel
theorem hou2_len : hou2.length = 174 := by decide +kernel
theorem hou3_len : hou3.length = 195 := by decide +kernel
theorem hItoa139 {w : World} (V : Vars w) : Calls Tryz.prog 31 #[.int .i64 139] w fun e w' => e = .returned (.string itoa139) ∧ Kp0 w w' := by
  have hi : Calls Tryz.prog 31 #[.int .i64 139] w _ := itoa_w 139 (by decide) w V
  refine Calls.mono hi ?_
  rintro e w' ⟨rfl, hb⟩
  exact ⟨rfl, ⟨hb⟩⟩
set_option synthInstance.maxHeartbeats 2000000 in
set_option synthInstance.maxSize 100000 in
set_option maxRecDepth 100000 in
set_option maxHeartbeats 16000000 in
theorem hSave {w : World} {h m n : Nat} {D : DataW Unit} {F : List UInt8 → Option (Nat × Nat)} [hh : BkC w h [.bool true, .int .i32 0, .int .u32 0, .map (some m)] 51] (hm : Mp w m n D F) (hn : n < 1000000) (hk : strKeys D = [wingB.data.toList]) (hF : F wingB.data.toList = some (4611686018427387904, 4607182418800017408)) (V : Vars w) (h10 : 10 ≤ w.heap.size) : Calls Tryz.prog 11 #[.pointer (some ⟨h, 0, none⟩)] w fun e w' => e = .returned (.tuple #[.string ⟨hou3.toArray⟩, .int .i64 0]) ∧ Kp0 w w' := by
  have hm' := hid hm
  have HN := hid hn
  have HK := hid hk
  have HF := hid hF
  have V' := hid V
  have H10 := hid h10
  have hI1 : Hid (∀ W : World, Calls Tryz.prog 31 #[.int .i64 1] W fun e w' => e = .returned (.string itoa1) ∧ w' = W) := hid (fun W => Tryz.strconv_Itoa_small 1 (by decide) W)
  have z139 : itoa139.size = 3 := by decide +kernel
  have zw : wingB.size = 4 := by decide +kernel
  have zt := saveT_size
  have zx : houX.size = 16 := by decide +kernel
  have z1 : itoa1.size = 1 := by decide +kernel
  clear hm hn hk hF V h10
  go_enter Tryz.func11, Tryz.ntmps11
  go_wp2_with (first | (go_at_call 24; (with_reducible refine Calls.mono (hKnownN (m := m) (h := h)) ?_); rintro e wk ⟨rfl, hk0⟩; have hmk := hid (hm'.out.below (Gr.out (v := w) (W := wk)))) | (go_at_call 29; (with_reducible refine Calls.mono (hAll (nm := wingB) hmk.out HN.out (by decide) HK.out HF.out) ?_); rintro e wa ⟨gn, capn, gf, gg, capg, rfl, hc1, hc2, hc3, hc4⟩) | (go_at_call 31; (with_reducible refine Calls.mono (hI1.out _) ?_); rintro e wi ⟨rfl, hw⟩; obtain rfl := hw.symm) | (go_at_call 30; (with_reducible refine Calls.mono (hWriteC (w0 := wa) hou1 rfl Gr.out rfl (by rw [hou1_len]; decide)) ?_); rintro e w1 ⟨rfl, hb1, hg1⟩))
  have hgl : gn < wa.heap.size := World.block_lt_of_cell? _ _ hc1
  have hfl : gf < wa.heap.size := World.block_lt_of_cell? _ _ hc2
  go_loopw [30] (fun s30 wx => ∃ j : Int, s30 = .int .i64 j ∧ Kp0 wa wx ∧ (j = 0 ∧ BuC wx wa.heap.size hou1 ∨ j = 1 ∧ BuC wx wa.heap.size hou2)) (fun s30 _ => 1 - (intOf s30).toNat)
  case atStart => exact ⟨0, rfl, inferInstance, .inl ⟨rfl, inferInstance⟩⟩
  case round =>
    obtain ⟨j, rfl, hkw, hj⟩ := hrel
    have d1 : wr.cell? ⟨gn, 0, none⟩ = some (.string wingB) := (World.cell?_of_block (w := wa) (hkw.out.block gn hgl)).trans hc1
    have d2 : wr.cell? ⟨gf, 0, none⟩ = some (.slice (some ⟨gg, 0, none⟩) 1 capg) := (World.cell?_of_block (w := wa) (hkw.out.block gf hfl)).trans hc2
    haveI : Has wr gn := ⟨World.block_lt_of_cell? _ _ d1⟩
    haveI : Has wr gf := ⟨World.block_lt_of_cell? _ _ d2⟩
    have hgw : Below w.heap.size w wr := Gr.out
    have VW := hid (fun (W : World) (hg : Below w.heap.size w W) => V'.out.keep (Keeps.of_below (S := []) hg) H10.out (by simp))
    have HGW := hid hgw
    clear hgw
    rcases hj with ⟨rfl, ib⟩ | ⟨rfl, ib⟩
    · go_wp2_with (first | (go_at_call 32; (with_reducible refine Calls.mono (hSaveFlow (VW.out _ HGW.out) (Nat.le_trans H10.out HGW.out.size)) ?_); rintro e wf ⟨rfl, hf1⟩; have HGF := hid (Gr.out (v := w) (W := wf))) | (go_at_call 31; (with_reducible refine Calls.mono (hItoa139 (VW.out _ HGF.out)) ?_); rintro e wi ⟨rfl, hi1⟩) | (go_at_call 30; (with_reducible refine Calls.mono (hWriteC (w0 := wa) hou2 rfl Gr.out rfl (by rw [hou2_len]; decide)) ?_); rintro e w2 ⟨rfl, hb2, hg2⟩))
      go_round
      case rel => exact ⟨1, rfl, inferInstance, .inr ⟨rfl, inferInstance⟩⟩
      case measure => simp [intOf]
    · go_wp2_with (first | (go_at_call 34; (with_reducible refine Calls.mono (hStringC (w0 := wa) rfl Gr.out (by decide +kernel)) ?_); rintro e ws ⟨rfl, hs1, hs2⟩; have HGS := hid (Gr.out (v := w) (W := ws))) | (go_at_call 33; (with_reducible refine Calls.mono (hSum (s := ⟨hou2.toArray⟩) (by decide +kernel) (VW.out _ HGS.out) (Nat.le_trans H10.out HGS.out.size)) ?_); rintro e wm ⟨rfl, hm1⟩; haveI hm2 : Kp0 ws wm := ⟨hm1⟩; rw [show (⟨(hexW 16 (sumS (⟨hou2.toArray⟩ : ByteArray).data.toList)).toArray⟩ : ByteArray) = houX from rfl]) | (go_at_call 30; (with_reducible refine Calls.mono (hWriteC (w0 := wa) hou3 rfl Gr.out rfl (by rw [hou3_len]; decide)) ?_); rintro e w3 ⟨rfl, hb3, hg3⟩) | (go_at_call 35; (with_reducible refine Calls.mono hLenC ?_); rintro e wl ⟨rfl, hw⟩; obtain rfl := hw.symm; rw [hou3_len]))
      go_ret2
      exact ⟨rfl, ⟨Gr.out⟩⟩
end
section
open Go.RowKit
/-- A house's reader reads words. -/
def wordS (L : By) : List By → Nat → Nat × Bool
  | [], i => (i, true)
  | x :: r, i => if x.isPrefixOf (L.drop i) then wordS L r (i + x.length) else (i, false)
theorem pref_le {s x : ByteArray} {i : Nat} (h : x.data.toList.isPrefixOf (s.data.toList.drop i) = true) (hi : i ≤ s.size) : i + x.size ≤ s.size := by
  obtain ⟨t, ht⟩ := List.isPrefixOf_iff_prefix.1 h
  have h1 : (s.data.toList.drop i).length = x.data.toList.length + t.length := by rw [← ht]; simp
  simp at h1
  have e1 : s.data.size = s.size := rfl
  have e2 : x.data.size = x.size := rfl
  omega
theorem wordS_le {s : ByteArray} : ∀ (ws : List ByteArray) (i : Nat), i ≤ s.size → (wordS s.data.toList (ws.map fun x => x.data.toList) i).1 ≤ s.size
  | [], i, h => h
  | x :: r, i, h => by
    simp only [List.map_cons, wordS]
    split
    · rename_i hp
      have := pref_le hp h
      have e : i + x.data.toList.length = i + x.size := by simp
      rw [e]
      exact wordS_le r _ this
    · exact h
set_option synthInstance.maxHeartbeats 2000000 in
set_option synthInstance.maxSize 100000 in
set_option maxRecDepth 100000 in
set_option maxHeartbeats 16000000 in
theorem hWrong {c p : Int} {w : World} : Calls Tryz.prog 39 #[.int .i64 c, .int .i64 p] w fun e w' => e = .returned (.pointer (some ⟨w.heap.size, 0, none⟩)) ∧ w' = w.alloc (.cells #[.int .i64 c, .int .i64 p] 58) := by
  go_enter Tryz.func39, Tryz.ntmps39
  go_wp2_with fail
  go_ret
  exact ⟨rfl, rfl⟩
set_option synthInstance.maxHeartbeats 2000000 in
set_option synthInstance.maxSize 100000 in
set_option maxRecDepth 100000 in
set_option maxHeartbeats 16000000 in
theorem hWord {w : World} {r g n c i : Nat} {s : ByteArray} (ws : List ByteArray) [hr : BkC w r [.string s, .int .i64 (i : Nat)] 131] (hi : i ≤ s.size) (hs : s.size ≤ 70000) (hn : ws.length = n) (hn2 : n ≤ 100) (hg : g ≠ r) (hg2 : g < w.heap.size) (hc : ∀ j, j < n → w.cell? ⟨g, j, none⟩ = some (.string (ws.getD j default))) (hok : (wordS s.data.toList (ws.map fun x => x.data.toList) i).2 = true) :
    Calls Tryz.prog 67 #[.pointer (some ⟨r, 0, none⟩), .slice (some ⟨g, 0, none⟩) n c] w fun e w' => e = .returned (.pointer none) ∧ BkC w' r [.string s, .int .i64 ((wordS s.data.toList (ws.map fun x => x.data.toList) i).1 : Nat)] 131 ∧ KpS w [r] w' := by
  have C := hid hc
  have HOK := hid hok
  clear hc hok
  obtain ⟨Q, hQ⟩ : ∃ Q, Q = wordS s.data.toList (ws.map fun x => x.data.toList) i := ⟨_, rfl⟩
  rw [← hQ] at HOK ⊢
  have HQ := hid hQ
  clear hQ
  go_enter Tryz.func67, Tryz.ntmps67
  go_wp2_with fail
  go_loopw [9] (fun t wr => ∃ (k i' : Nat), k ≤ n ∧ t = .int .i64 k ∧ i' ≤ s.size ∧ BkC wr r [.string s, .int .i64 (i' : Nat)] 131 ∧ KpS w [r] wr ∧ Hid (wordS s.data.toList ((ws.drop k).map fun x => x.data.toList) i' = Q)) (fun t _ => n - (intOf t).toNat)
  case atStart => exact ⟨0, i, Nat.zero_le _, rfl, hi, inferInstance, ⟨GS.out⟩, hid HQ.out.symm⟩
  case round =>
    obtain ⟨k, i', hk, rfl, hi', ib, ik, hm⟩ := hrel
    by_cases hlt : k < n
    · have ck : wr.cell? ⟨g, k, none⟩ = some (.string (ws.getD k default)) := ((ik.out.cell (q := ⟨g, k, none⟩) hg2 (by simpa using hg))).trans (C.out k hlt)
      have hdr : ws.drop k = ws.getD k default :: ws.drop (k + 1) := by
        rw [List.drop_eq_getElem_cons (by omega), List.getD_eq_getElem?_getD, List.getElem?_eq_getElem (by omega)]
        rfl
      have hm' := hm.out
      clear hm
      rw [hdr, List.map_cons] at hm'
      generalize ws.getD k default = x at ck hm'
      clear hdr
      cases hp : x.data.toList.isPrefixOf (s.data.toList.drop i')
      · exfalso
        rw [wordS, if_neg (by rw [hp]; decide)] at hm'
        have := HOK.out
        rw [← hm'] at this
        cases this
      · have hpe := prefix_eq s x i' hi'
        rw [hp] at hpe
        have hpf := hpe
        rw [Lib.extract_data] at hpf
        have hle := pref_le hp hi'
        rw [wordS, if_pos hp] at hm'
        have HM := hid hm'
        have d0 := ib.out.cell (i := 0) rfl
        have d1 := ib.out.cell (i := 1) rfl
        have f1 := ib.out.free 1
        have hglt := World.block_lt_of_cell? _ _ ck
        clear hp hm'
        go_wp2_with fail
        go_quiet ((go_at_call 103; exact Calls.quiet_of_same (Tryz.strings_HasPrefix _ _ _)))
        go_wp2_with fail
        go_roundw
        case rel =>
          haveI ib2 : BkC (wr.drewN nq) r [.string s, .int .i64 (i' : Nat)] 131 := ⟨ib.out⟩
          haveI ik2 : GS w [r] (wr.drewN nq) := ⟨(GS.out (v := w) (S := [r]) (W := wr)).drewN nq⟩
          refine ⟨k + 1, i' + x.size, by omega, by rfl, hle, ?_, ⟨GS.out⟩, hid (by have := HM.out; rwa [show x.data.toList.length = x.size by simp] at this)⟩
          have := (inferInstance : BkC ((wr.drewN nq).setCell ⟨r, 1, none⟩ (.int .i64 ((i' : Int) + (x.size : Int)))) r _ 131)
          exact this
        case measure => simp [intOf]; omega
    · obtain rfl : k = n := by omega
      have hm' := hm.out
      rw [List.drop_of_length_le (by omega)] at hm'
      have e1 : Q.1 = i' := by rw [← hm']; rfl
      clear hm hm'
      go_wp2_with fail
      go_ret
      exact ⟨rfl, by rw [e1]; infer_instance, ⟨GS.out⟩⟩
end
section
open Go.RowKit
abbrev digS : ByteArray := ⟨#[48, 49, 50, 51, 52, 53, 54, 55, 56, 57]⟩
theorem hTrimLeft {s : ByteArray} {w : World} (h0 : 0 < s.size) : Calls Tryz.prog 108 #[.string s, .string digS] w fun e w' => e = .returned (.string ⟨(Lib.trimLeftS s.data.toList digS.data.toList).toArray⟩) ∧ Kp0 w w' := by
  refine Calls.mono (Any.strings_TrimLeft_set Tryz.lays161 (fun W => by kernel_rfl) (by kernel_rfl) s digS w (by decide) h0 (by decide) (fun j b h => by
    have H : ∀ x ∈ digS.data.toList, x.toNat < 128 := by decide
    exact H b (List.mem_of_getElem? h))) ?_
  rintro e w' ⟨rfl, rfl⟩
  exact ⟨rfl, ⟨Gr.out⟩⟩
theorem hAtoi {s : ByteArray} {w : World} {n : Int} (hs : s.size ≤ 70000) (h : Lib.atoiAll s.data.toList = .ok n) : Calls Tryz.prog 109 #[.string s] w fun e w' => e = .returned (.tuple #[.int .i64 n, .nilIface]) ∧ Kp0 w w' := by
  refine Calls.mono (Tryz.strconv_Atoi_ok s (by omega) n h w) ?_
  rintro e w' ⟨rfl, hw⟩
  refine ⟨rfl, ?_⟩
  rcases hw with rfl | ⟨t, rfl⟩
  · exact ⟨Below.refl _ _⟩
  · exact ⟨⟨rfl, rfl, rfl, by rw [Lib.bytesWorld_size]; omega, fun j hj => Lib.bytesWorld_at_old w 5 t j hj⟩⟩
set_option synthInstance.maxHeartbeats 2000000 in
set_option synthInstance.maxSize 100000 in
set_option maxRecDepth 100000 in
set_option maxHeartbeats 16000000 in
theorem hWhole {w : World} {r i most nd n v0 : Nat} {s rest t dB : ByteArray} [hr : BkC w r [.string s, .int .i64 (i : Nat)] 131] (hi : i ≤ s.size) (hs : s.size ≤ 70000) (h1 : s.extract i s.size = rest) (h2 : (⟨(Lib.trimLeftS rest.data.toList digS.data.toList).toArray⟩ : ByteArray) = t) (h3 : rest.size = nd + t.size) (h4 : rest.extract 0 nd = dB) (h5 : Lib.atoiAll dB.data.toList = .ok (n : Int)) (h6 : n ≤ most) (h7 : 0 < rest.size) (hsz : rest.size ≤ 70000) (h9 : dB.size ≤ 70000) (h10 : most ≤ 70000) (hv : (rest[0]'h7).toNat = v0) (h8 : nd ≤ 1 ∨ (1 < nd ∧ v0 ≠ 48)) :
    Calls Tryz.prog 68 #[.pointer (some ⟨r, 0, none⟩), .int .i64 (most : Nat)] w fun e w' => e = .returned (.tuple #[.int .i64 (n : Nat), .pointer none]) ∧ BkC w' r [.string s, .int .i64 ((i : Int) + (nd : Int))] 131 ∧ KpS w [r] w' := by
  have TL := hid (fun W : World => hTrimLeft (s := rest) (w := W) h7)
  rw [h2] at TL
  have AT := hid (fun W : World => hAtoi (w := W) h9 h5)
  have hnt : (rest.size : Int) - (t.size : Int) = (nd : Int) := by omega
  have b1 : (i : Int) ≤ (s.size : Int) := by omega
  have b2 : (0 : Int) ≤ (i : Int) := by omega
  have b3 : (nd : Int) ≤ (rest.size : Int) := by omega
  have b4 : (0 : Int) ≤ (nd : Int) := by omega
  have b5 : (0 : Int) < (rest.size : Int) := by omega
  have n6 : ¬ ((n : Int) > (most : Int)) := by omega
  have n6b : ¬ ((most : Int) < (n : Int)) := by omega
  have H4 := hid h4
  have H1 := hid h1
  have d0 := hr.out.cell (i := 0) rfl
  have d1 := hr.out.cell (i := 1) rfl
  have f1 := hr.out.free 1
  clear h2 h3 h5
  rcases h8 with h8 | ⟨h8, h8'⟩
  · have e8 : ¬ ((1 : Int) < (nd : Int)) := by omega
    have e8b : decide ((1 : Int) < (nd : Int)) = false := decide_eq_false e8
    go_enter Tryz.func68, Tryz.ntmps68
    go_wp2_with fail
    go_region_held3 (fun W => W.cell? ⟨r, 0, none⟩ = some (.string s) ∧ W.cell? ⟨r, 1, none⟩ = some (.int .i64 i)) (refine ⟨?_, ?_⟩ <;> (first | exact Bk.cell BkC.out rfl | (simp [go_sem]; done))) (fail)
    go_wp2_with (first | (go_at_call 108; (with_reducible refine Calls.mono (TL.out _) ?_); rintro e wt ⟨rfl, ht⟩) | (go_at_call 109; (with_reducible refine Calls.mono (AT.out _) ?_); rintro e wt2 ⟨rfl, ht2⟩; have d1 := (inferInstance : BkC wt2 r _ 131).out.cell (i := 1) rfl; have f1 := (inferInstance : BkC wt2 r _ 131).out.free 1))
    go_ret2
    exact ⟨rfl, inferInstance, ⟨GS.out⟩⟩
  · have e8 : ((1 : Int) < (nd : Int)) := by omega
    have e8b : decide ((1 : Int) < (nd : Int)) = true := decide_eq_true e8
    have e9 : ((v0 : Int) == 48) = false := by rw [beq_eq_false_iff_ne]; omega
    go_enter Tryz.func68, Tryz.ntmps68
    go_wp2_with fail
    go_region_held3 (fun W => W.cell? ⟨r, 0, none⟩ = some (.string s) ∧ W.cell? ⟨r, 1, none⟩ = some (.int .i64 i)) (refine ⟨?_, ?_⟩ <;> (first | exact Bk.cell BkC.out rfl | (simp [go_sem]; done))) (fail)
    go_wp2_with (first | (go_at_call 108; (with_reducible refine Calls.mono (TL.out _) ?_); rintro e wt ⟨rfl, ht⟩) | (go_at_call 109; (with_reducible refine Calls.mono (AT.out _) ?_); rintro e wt2 ⟨rfl, ht2⟩; have d1 := (inferInstance : BkC wt2 r _ 131).out.cell (i := 1) rfl; have f1 := (inferInstance : BkC wt2 r _ 131).out.free 1))
    go_ret2
    exact ⟨rfl, inferInstance, ⟨GS.out⟩⟩
end
section
open Go.RowKit
set_option synthInstance.maxHeartbeats 2000000 in
set_option synthInstance.maxSize 100000 in
set_option maxRecDepth 100000 in
set_option maxHeartbeats 16000000 in
theorem hName {w : World} {r i nn j : Nat} {s rest nm ah : ByteArray} [hr : BkC w r [.string s, .int .i64 (i : Nat)] 131] (h1 : s.extract i s.size = rest) (h2 : runL rest.data.toList = nn) (hj : j = i + nn) (h3 : s.extract i j = nm) (h4 : fitL nm.data.toList = true) (h5 : Op.bytesLess nm.toList ah.toList = false) (h6 : (nm.toList == ah.toList) = false) (hjs : j ≤ s.size) (hs : s.size ≤ 70000) (hrs : rest.size ≤ 70000) (hns : nm.size = nn) :
    Calls Tryz.prog 110 #[.pointer (some ⟨r, 0, none⟩), .string ah] w fun e w' => e = .returned (.tuple #[.string nm, .pointer none]) ∧ BkC w' r [.string s, .int .i64 (j : Nat)] 131 ∧ KpS w [r] w' := by
  have RU := hid (fun W : World => hRun (w := W) hrs)
  rw [h2] at RU
  have FI := hid (fun W : World => hFit (s := nm) (w := W) (by omega))
  rw [h4] at FI
  have hz : IntKind.i64.wrap ((i : Int) + (nn : Int)) = (j : Int) := by rw [IntWalk.i64_in _ (by omega)]; omega
  have b1 : (i : Int) ≤ (s.size : Int) := by omega
  have b2 : (0 : Int) ≤ (i : Int) := by omega
  have b3 : (j : Int) ≤ (s.size : Int) := by omega
  have b4 : (i : Int) ≤ (j : Int) := by omega
  have d0 := hr.out.cell (i := 0) rfl
  have d1 := hr.out.cell (i := 1) rfl
  have f1 := hr.out.free 1
  have HJ := hid hj
  clear h2 h4 hj
  go_enter Tryz.func110, Tryz.ntmps110
  go_wp2_with fail
  go_region_held3 (fun W => W.cell? ⟨r, 0, none⟩ = some (.string s) ∧ W.cell? ⟨r, 1, none⟩ = some (.int .i64 i)) (refine ⟨?_, ?_⟩ <;> (first | exact Bk.cell BkC.out rfl | (simp [go_sem]; done))) (first | (go_at_call 83; (with_reducible refine Calls.mono (RU.out _) ?_); rintro e wc ⟨rfl, hw⟩; obtain rfl := hw.symm))
  all_goals go_wp2_with (go_at_call 50; (with_reducible refine Calls.mono (FI.out _) ?_); rintro e wc ⟨rfl, hw⟩; obtain rfl := hw.symm)
  all_goals go_ret2
  all_goals exact ⟨rfl, inferInstance, ⟨GS.out⟩⟩
end
section
open Go.RowKit
theorem flowR_A : (flowR saveL).1 = [elA] ∧ (flowR saveL).2.1 = 0 := by decide +kernel
theorem fs_own {w : World} {B : Nat} {sv : Value} (h : w.ownsRow B 38 4 sv 1 (elCells elA)) : ∃ g cap : Nat, sv = .slice (some ⟨g, 0, none⟩) 1 cap ∧ Fs w g (4611686018427387904, 4607182418800017408) ∧ B ≤ g := by
  obtain ⟨h1, h2⟩ := h
  rcases h2 with ⟨-, h⟩ | ⟨g, cap, cur, rfl, hb, hg, hc, hm, hs, ht⟩
  · cases h
  · exact ⟨g, cap, rfl, ⟨cur, hg, ht⟩, hb⟩
theorem hRead {w : World} (V : Vars w) (h10 : 10 ≤ w.heap.size) : Calls Tryz.prog 111 #[.string saveT] w fun e w' => ∃ g cap : Nat, e = .returned (.tuple #[.agg #[.slice (some ⟨g, 0, none⟩) 1 cap], .nilIface]) ∧ FsC w' g (4611686018427387904, 4607182418800017408) ∧ Kp0 w w' ∧ UpW w g := by
  have h := readF_any saveT (by rw [saveT_size]; decide) w V h10
  rw [show saveT.data.toList = saveL from rfl, flowR_A.1, flowR_A.2] at h
  refine Calls.mono h ?_
  rintro e w' ⟨sv, v, rfl, hT, hO, hb⟩
  obtain ⟨g, cap, rfl, hf, hg⟩ := fs_own (sv := sv) hO
  rcases hT with ⟨-, rfl⟩ | ⟨h, -⟩
  · exact ⟨g, cap, rfl, ⟨hf⟩, ⟨hb⟩, ⟨hg⟩⟩
  · exact absurd rfl h
end
section
open Go.RowKit
def houB : ByteArray := ⟨hou3.toArray⟩
theorem houB_size : houB.size = 195 := by decide +kernel
theorem hWordB {w : World} {r g n c i j : Nat} {I J : Int} {s : ByteArray} {L : List Value} (ws : List ByteArray) [hr : BkC w r [.string s, .int .i64 I] 131] [hb : BkC w g L 9] [ne : NeN g r] (hI : I = (i : Int)) (hJ : J = (j : Int)) (hL : L = ws.map Value.string) (hn : ws.length = n) (hn2 : n ≤ 100) (hi : i ≤ s.size) (hs : s.size ≤ 70000) (hok : wordS s.data.toList (ws.map fun x => x.data.toList) i = (j, true)) :
    Calls Tryz.prog 67 #[.pointer (some ⟨r, 0, none⟩), .slice (some ⟨g, 0, none⟩) n c] w fun e w' => e = .returned (.pointer none) ∧ BkC w' r [.string s, .int .i64 J] 131 ∧ KpS w [r] w' := by
  subst hI hJ hL
  have h := hWord (w := w) (r := r) (g := g) (n := n) (c := c) (i := i) (s := s) ws hi hs hn hn2 ne.out hb.out.lt (fun k hk => hb.out.cell (by rw [List.getElem?_map, List.getElem?_eq_getElem (by omega), List.getD_eq_getElem?_getD, List.getElem?_eq_getElem (by omega)]; rfl)) (by rw [hok])
  rw [hok] at h
  exact h
def restA : ByteArray := houB.extract 19 houB.size
def trimA : ByteArray := ⟨(Lib.trimLeftS restA.data.toList digS.data.toList).toArray⟩
def numA : ByteArray := restA.extract 0 1
theorem restA_size : restA.size = 176 := by decide +kernel
theorem trimA_size : trimA.size = 175 := by decide +kernel
theorem hWholeA {w : World} {r : Nat} [hr : BkC w r [.string houB, .int .i64 19] 131] : Calls Tryz.prog 68 #[.pointer (some ⟨r, 0, none⟩), .int .i64 64] w fun e w' => e = .returned (.tuple #[.int .i64 1, .pointer none]) ∧ BkC w' r [.string houB, .int .i64 20] 131 ∧ KpS w [r] w' := by
  haveI hr2 : BkC w r [.string houB, .int .i64 ((19 : Nat) : Int)] 131 := hr
  exact hWhole (w := w) (r := r) (i := 19) (most := 64) (nd := 1) (n := 1) (v0 := 49) (s := houB) (rest := restA) (t := trimA) (dB := numA) (by rw [houB_size]; decide) (by rw [houB_size]; decide) rfl rfl (by rw [restA_size, trimA_size]) rfl (by kernel_rfl) (by decide) (by rw [restA_size]; decide) (by rw [restA_size]; decide) (by decide +kernel) (by decide) (by decide +kernel) (.inl (by decide))
def restB : ByteArray := houB.extract 31 houB.size
def trimB : ByteArray := ⟨(Lib.trimLeftS restB.data.toList digS.data.toList).toArray⟩
def numB : ByteArray := restB.extract 0 3
theorem restB_size : restB.size = 164 := by decide +kernel
theorem trimB_size : trimB.size = 161 := by decide +kernel
theorem hWholeB {w : World} {r : Nat} [hr : BkC w r [.string houB, .int .i64 31] 131] : Calls Tryz.prog 68 #[.pointer (some ⟨r, 0, none⟩), .int .i64 65536] w fun e w' => e = .returned (.tuple #[.int .i64 139, .pointer none]) ∧ BkC w' r [.string houB, .int .i64 34] 131 ∧ KpS w [r] w' := by
  haveI hr2 : BkC w r [.string houB, .int .i64 ((31 : Nat) : Int)] 131 := hr
  exact hWhole (w := w) (r := r) (i := 31) (most := 65536) (nd := 3) (n := 139) (v0 := 49) (s := houB) (rest := restB) (t := trimB) (dB := numB) (by rw [houB_size]; decide) (by rw [houB_size]; decide) rfl rfl (by rw [restB_size, trimB_size]) rfl (by kernel_rfl) (by decide) (by rw [restB_size]; decide) (by rw [restB_size]; decide) (by decide +kernel) (by decide) (by decide +kernel) (.inr (by decide))
def restC : ByteArray := houB.extract 26 houB.size
theorem nameC : houB.extract 26 30 = wingB := by
  have e : (houB.extract 26 30).data.toList = wingB.data.toList := by decide +kernel
  cases h : houB.extract 26 30
  cases h2 : wingB
  rw [h, h2] at e
  simpa using e
theorem hNameC {w : World} {r : Nat} [hr : BkC w r [.string houB, .int .i64 26] 131] : Calls Tryz.prog 110 #[.pointer (some ⟨r, 0, none⟩), .string ⟨#[]⟩] w fun e w' => e = .returned (.tuple #[.string wingB, .pointer none]) ∧ BkC w' r [.string houB, .int .i64 30] 131 ∧ KpS w [r] w' := by
  haveI hr2 : BkC w r [.string houB, .int .i64 ((26 : Nat) : Int)] 131 := hr
  exact hName (w := w) (r := r) (i := 26) (nn := 4) (j := 30) (s := houB) (rest := restC) (nm := wingB) (ah := ⟨#[]⟩) rfl (by decide +kernel) rfl nameC (by decide +kernel) (by decide +kernel) (by decide +kernel) (by rw [houB_size]; decide) (by rw [houB_size]; decide) (by decide +kernel) (by decide +kernel)
end
section
open Go.RowKit
section
variable {P : Program} {fn : Func} {R : Ending → World → Prop} {a : Act} {w : World} {q p u : Tmp} {ty : TypeId} {g : Nat} {L : List Value} {T : Nat} {d : TypeDesc}
theorem ret_tct (h : fn.results = #[.tmp q, .cell p ty, .tmp u]) (hd0 : a.defers = []) (hp : a.tmps.getD p undef = .pointer (some ⟨g, 0, none⟩)) [hb : BkC w g L T] (hu : P.underlying ty = some d) (hd : (match d with | .struct _ | .array _ _ => true | _ => false) = true) (hi : (P.info? ty).map (·.size) = some L.toArray.size)
    (hR : R (.returned (.tuple #[a.tmps.getD q undef, .agg L.toArray, a.tmps.getD u undef])) w) : bodyPost P fn R .ret a w := by
  refine bodyPost_ret (v := .tuple #[a.tmps.getD q undef, .agg L.toArray, a.tmps.getD u undef]) ?_ hd0 hR
  have hp' : a.tmps[p]?.getD undef = .pointer (some ⟨g, 0, none⟩) := by simpa using hp
  simp [results, h, hp', asAddr, Result.andThen, run_loadVar_row w g T ty L.toArray (0, 0) d hb.out hu hd hi]
end
theorem textD : houB.extract 35 174 = saveT := by
  have e : (houB.extract 35 174).data.toList = saveT.data.toList := by decide +kernel
  cases h : houB.extract 35 174
  cases h2 : saveT
  rw [h, h2] at e
  simpa using e
set_option synthInstance.maxHeartbeats 2000000 in
set_option synthInstance.maxSize 100000 in
set_option maxRecDepth 100000 in
set_option maxHeartbeats 16000000 in
theorem hFlow {w : World} {r : Nat} [hr : BkC w r [.string houB, .int .i64 21] 131] (V : Vars w) (h10 : 10 ≤ w.heap.size) (hr10 : 10 ≤ r) : Calls Tryz.prog 69 #[.pointer (some ⟨r, 0, none⟩), .string ⟨#[]⟩] w fun e w' => ∃ g cap : Nat, e = .returned (.tuple #[.string wingB, .agg #[.slice (some ⟨g, 0, none⟩) 1 cap], .pointer none]) ∧ FsC w' g (4611686018427387904, 4607182418800017408) ∧ BkC w' r [.string houB, .int .i64 174] 131 ∧ KpS w [r] w' ∧ UpW w g := by
  have VW := hid (fun (W : World) (hg : Keeps w.heap.size [r] w W) => V.keep hg h10 (by simpa using hr10))
  have H10 := hid h10
  have hsz := houB_size
  have htx := textD
  have hq1 : IntKind.i64.wrap ((houB.size : Int) - 35) = 160 := by rw [hsz]; decide
  have hq2 : IntKind.i64.wrap (35 + 139) = 174 := by decide
  have hq3 : IntKind.i64.wrap 174 = 174 := by decide
  have hq4 : IntKind.i64.wrap 160 = 160 := by decide
  have hsl : ∀ W : World, (Instr.slice 9 (.string houB) (some (.int .i64 35)) (some (.int .i64 174)) none).run Tryz.prog W = .ok (.string saveT) W := fun W => (run_slice_string W 9 houB .i64 .i64 35 174 Tryz.underlying9 (by decide) (by decide) (by rw [hsz]; decide)).trans (by rw [show (35 : Int).toNat = 35 from rfl, show (174 : Int).toNat = 174 from rfl, htx])
  have b1 : (174 : Int) ≤ (houB.size : Int) := by rw [hsz]; decide
  have b2 : (35 : Int) ≤ (houB.size : Int) := by rw [hsz]; decide
  clear V h10 hsz htx
  go_enter Tryz.func69, Tryz.ntmps69
  go_upto_region 17 with (first | (go_at_call 67; (with_reducible refine Calls.mono (hWordB (i := 21) (j := 26) (I := 21) (J := 26) [⟨#[102, 108, 111, 119]⟩, ⟨#[32]⟩] rfl rfl rfl rfl (by decide) (by rw [houB_size]; decide) (by rw [houB_size]; decide) (by decide +kernel)) ?_); rintro e w1 ⟨rfl, _, _⟩; have d0 := (inferInstance : BkC w1 r _ 131).out.cell (i := 0) rfl; have d1 := (inferInstance : BkC w1 r _ 131).out.cell (i := 1) rfl) | (go_at_call 110; (with_reducible refine Calls.mono hNameC ?_); rintro e w2 ⟨rfl, _, _⟩; have d0 := (inferInstance : BkC w2 r _ 131).out.cell (i := 0) rfl; have d1 := (inferInstance : BkC w2 r _ 131).out.cell (i := 1) rfl) | (go_at_call 67; (with_reducible refine Calls.mono (hWordB (i := 30) (j := 31) (I := 30) (J := 31) [⟨#[32]⟩] rfl rfl rfl rfl (by decide) (by rw [houB_size]; decide) (by rw [houB_size]; decide) (by decide +kernel)) ?_); rintro e w3 ⟨rfl, _, _⟩; have d0 := (inferInstance : BkC w3 r _ 131).out.cell (i := 0) rfl; have d1 := (inferInstance : BkC w3 r _ 131).out.cell (i := 1) rfl) | (go_at_call 68; (with_reducible refine Calls.mono hWholeB ?_); rintro e w4 ⟨rfl, _, _⟩; have d0 := (inferInstance : BkC w4 r _ 131).out.cell (i := 0) rfl; have d1 := (inferInstance : BkC w4 r _ 131).out.cell (i := 1) rfl) | (go_at_call 67; (with_reducible refine Calls.mono (hWordB (i := 34) (j := 35) (I := 34) (J := 35) [⟨#[10]⟩] rfl rfl rfl rfl (by decide) (by rw [houB_size]; decide) (by rw [houB_size]; decide) (by decide +kernel)) ?_); rintro e w5 ⟨rfl, _, _⟩; have d0 := (inferInstance : BkC w5 r _ 131).out.cell (i := 0) rfl; have d1 := (inferInstance : BkC w5 r _ 131).out.cell (i := 1) rfl))
  go_region_held3 (fun W => W.cell? ⟨r, 0, none⟩ = some (.string houB) ∧ W.cell? ⟨r, 1, none⟩ = some (.int .i64 35)) (refine ⟨?_, ?_⟩ <;> (first | exact Bk.cell BkC.out rfl | (simp [go_sem]; done))) (fail)
  go_upto_region 19 with fail
  go_region_held3 (fun W => W.cell? ⟨r, 0, none⟩ = some (.string houB) ∧ W.cell? ⟨r, 1, none⟩ = some (.int .i64 35)) (refine ⟨?_, ?_⟩ <;> (first | exact Bk.cell BkC.out rfl | (simp [go_sem]; done))) (first | (go_at_call 111; (with_reducible refine Calls.mono (hRead (VW.out _ GS.out) (Nat.le_trans H10.out (GS.out (v := w) (S := [r])).size)) ?_); rintro e wr1 ⟨g1, cap1, rfl, _, _, hu⟩))
  all_goals
    have f1 := (inferInstance : BkC wr1 r _ 131).out.free 1
    have l1 : w.heap.size < w5.heap.size := (inferInstance : Has w5 w.heap.size).lt
    haveI : Up w.heap.size w5.heap.size := ⟨Nat.le_of_lt l1⟩
    have l2 : r < w5.heap.size := (inferInstance : Has w5 r).lt
    have l3 : ¬ w.heap.size = w5.heap.size := by omega
    have l4 : ¬ w5.heap.size = w.heap.size := by omega
    haveI hup : Up w.heap.size g1 := ⟨Nat.le_trans (Keeps.size (GS.out (v := w) (S := [r]))) hu.out⟩
    have cz := (inferInstance : BkC wr1 w.heap.size _ 29).out.cell (i := 0) rfl
    have fz := (inferInstance : BkC wr1 w.heap.size _ 29).out.free 0
    go_upto_region 26 with fail
    go_region
    all_goals
      go_wp2_with fail
      refine ret_tct rfl rfl rfl (by rfl) (by rfl) (by rfl) ?_
      exact ⟨g1, cap1, rfl, inferInstance, inferInstance, ⟨GS.out⟩, ⟨Up.out⟩⟩
end
section
open Go.RowKit
theorem ba_ext {a b : ByteArray} (e : a.data.toList = b.data.toList) : a = b := by
  cases a
  cases b
  simpa using e
theorem aboveE : houB.extract 0 174 = ⟨hou2.toArray⟩ := ba_ext (by decide +kernel)
theorem sumE : houB.extract 178 194 = houX := ba_ext (by decide +kernel)
theorem hexE (j : Nat) (h : j < 16) : ∃ c : UInt8, houB.extract (178 + j) (178 + j + 1) = ⟨#[c]⟩ ∧ decide ((0 : Int) ≤ Lib.indexByte (⟨#[48, 49, 50, 51, 52, 53, 54, 55, 56, 57, 97, 98, 99, 100, 101, 102]⟩ : ByteArray).data.toList c) = true := by
  have H : ∀ k : Fin 16, ((houB.extract (178 + k.1) (178 + k.1 + 1)).data.toList.length = 1 ∧ (houB.extract (178 + k.1) (178 + k.1 + 1)).data.toList.all (fun c => decide ((0 : Int) ≤ Lib.indexByte (⟨#[48, 49, 50, 51, 52, 53, 54, 55, 56, 57, 97, 98, 99, 100, 101, 102]⟩ : ByteArray).data.toList c)) = true) := by decide +kernel
  obtain ⟨h1, h2⟩ := H ⟨j, h⟩
  generalize hx : houB.extract (178 + j) (178 + j + 1) = x at h1 h2 ⊢
  obtain ⟨c, hc⟩ := List.length_eq_one_iff.1 h1
  refine ⟨c, ba_ext hc, ?_⟩
  rw [hc] at h2
  simpa using h2
theorem kp0_b {w w' : World} (h : Below w.heap.size w w') : Kp0 w w' := ⟨h⟩
set_option synthInstance.maxHeartbeats 2000000 in
set_option synthInstance.maxSize 100000 in
set_option maxRecDepth 100000 in
set_option maxHeartbeats 16000000 in
theorem hEnd {w : World} {r : Nat} [hr : BkC w r [.string houB, .int .i64 174] 131] (V : Vars w) (h10 : 10 ≤ w.heap.size) (hr10 : 10 ≤ r) : Calls Tryz.prog 70 #[.pointer (some ⟨r, 0, none⟩)] w fun e w' => e = .returned (.pointer none) ∧ KpS w [r] w' := by
  have VW := hid (fun (W : World) (hg : Keeps w.heap.size [r] w W) => V.keep hg h10 (by simpa using hr10))
  have H10 := hid h10
  have hsz := houB_size
  have q1 : ∀ W : World, (Instr.slice 9 (.string houB) none (some (.int .i64 174)) none).run Tryz.prog W = .ok (.string ⟨hou2.toArray⟩) W := fun W => (run_slice_string_h W 9 houB Tryz.underlying9 .i64 174 (by decide) (by rw [hsz]; decide)).trans (by rw [show (174 : Int).toNat = 174 from rfl, aboveE])
  have q2 : ∀ W : World, (Instr.slice 9 (.string houB) (some (.int .i64 178)) (some (.int .i64 194)) none).run Tryz.prog W = .ok (.string houX) W := fun W => (run_slice_string W 9 houB .i64 .i64 178 194 Tryz.underlying9 (by decide) (by decide) (by rw [hsz]; decide)).trans (by rw [show (178 : Int).toNat = 178 from rfl, show (194 : Int).toNat = 194 from rfl, sumE])
  have hq3 : IntKind.i64.wrap 194 = 194 := by decide
  have hq4 : IntKind.i64.wrap (178 + 16) = 194 := by decide
  have HSZ := hid hsz
  have d0 := hr.out.cell (i := 0) rfl
  have d1 := hr.out.cell (i := 1) rfl
  clear V h10 hsz
  go_enter Tryz.func70, Tryz.ntmps70
  go_wp2_with fail
  go_region_held3 (fun W => W.cell? ⟨r, 0, none⟩ = some (.string houB) ∧ W.cell? ⟨r, 1, none⟩ = some (.int .i64 174)) (refine ⟨?_, ?_⟩ <;> (first | exact Bk.cell BkC.out rfl | (simp [go_sem]; done))) (fail)
  go_wp2_with (go_at_call 67; (with_reducible refine Calls.mono (hWordB (i := 174) (j := 178) (I := 174) (J := 178) [⟨#[115, 117, 109]⟩, ⟨#[32]⟩] rfl rfl rfl rfl (by decide) (by rw [houB_size]; decide) (by rw [houB_size]; decide) (by decide +kernel)) ?_); rintro e w1 ⟨rfl, _, _⟩; have d0 := (inferInstance : BkC w1 r _ 131).out.cell (i := 0) rfl; have d1 := (inferInstance : BkC w1 r _ 131).out.cell (i := 1) rfl)
  go_loopw [27] (fun s27 wx => ∃ j : Nat, s27 = .int .i64 j ∧ j ≤ 16 ∧ BkC wx r [.string houB, .int .i64 178] 131 ∧ KpS w [r] wx) (fun s27 _ => 16 - (intOf s27).toNat)
  case atStart => exact ⟨0, rfl, Nat.zero_le _, inferInstance, ⟨GS.out⟩⟩
  case round =>
    obtain ⟨j, rfl, hj, ib, ik⟩ := hrel
    have d0 := ib.out.cell (i := 0) rfl
    have d1 := ib.out.cell (i := 1) rfl
    have f1 := ib.out.free 1
    by_cases hl : j < 16
    · obtain ⟨c, hc, hb⟩ := hexE j hl
      have n0 : (j : Int) < 16 := by omega
      have n1 : ¬ ((houB.size : Int) ≤ 178 + (j : Int)) := by have := HSZ.out; omega
      have q3 : ∀ W : World, (Instr.slice 9 (.string houB) (some (.int .i64 (178 + (j : Int)))) (some (.int .i64 (178 + (j : Int) + 1))) none).run Tryz.prog W = .ok (.string ⟨#[c]⟩) W := fun W => (run_slice_string W 9 houB .i64 .i64 (178 + (j : Int)) (178 + (j : Int) + 1) Tryz.underlying9 (by omega) (by omega) (by have := HSZ.out; omega)).trans (by rw [show (178 + (j : Int)).toNat = 178 + j by omega, show (178 + (j : Int) + 1).toNat = 178 + j + 1 by omega, hc])
      have CO := hid (fun W : World => Tryz.strings_Contains_one ⟨#[48, 49, 50, 51, 52, 53, 54, 55, 56, 57, 97, 98, 99, 100, 101, 102]⟩ c W)
      rw [hb] at CO
      clear hc hb
      go_wp2_with (go_at_call 112; (with_reducible refine Calls.mono (CO.out _) ?_); rintro e wc ⟨rfl, hw⟩; obtain rfl := hw.symm)
      go_round
      case rel => exact ⟨j + 1, rfl, by omega, ib, ik⟩
      case measure => simp [intOf]; omega
    · obtain rfl : j = 16 := by omega
      have n5 : ¬ ((195 : Int) < (houB.size : Int)) := by have := HSZ.out; omega
      go_wp2_with (go_at_call 67; (with_reducible refine Calls.mono (hWordB (i := 194) (j := 195) (I := 194) (J := 195) [⟨#[10]⟩] rfl rfl rfl rfl (by decide) (by rw [houB_size]; decide) (by rw [houB_size]; decide) (by decide +kernel)) ?_); rintro e w2 ⟨rfl, _, _⟩; have d0 := (inferInstance : BkC w2 r _ 131).out.cell (i := 0) rfl; have d1 := (inferInstance : BkC w2 r _ 131).out.cell (i := 1) rfl)
      go_region_held3 (fun W => W.cell? ⟨r, 0, none⟩ = some (.string houB) ∧ W.cell? ⟨r, 1, none⟩ = some (.int .i64 195)) (refine ⟨?_, ?_⟩ <;> (first | exact Bk.cell BkC.out rfl | (simp [go_sem]; done))) (fail)
      go_upto_region 18 with fail
      go_region_held3 (fun W => W.cell? ⟨r, 0, none⟩ = some (.string houB)) (first | exact Bk.cell BkC.out rfl | (simp [go_sem]; done)) (first | (go_at_call 33; (with_reducible refine Calls.mono (hSum (s := ⟨hou2.toArray⟩) (by decide +kernel) (VW.out _ GS.out) (Nat.le_trans H10.out (Keeps.size (GS.out (v := w) (S := [r]))))) ?_); rintro e wm ⟨rfl, hm1⟩; haveI hm2 := kp0_b hm1; rw [show (⟨(hexW 16 (sumS (⟨hou2.toArray⟩ : ByteArray).data.toList)).toArray⟩ : ByteArray) = houX from rfl]))
      all_goals
        go_wp2_with fail
        go_ret
        exact ⟨rfl, ⟨GS.out⟩⟩
end
end Go.Proofs.YtmjpfoninpbgiaaGreatDoor
