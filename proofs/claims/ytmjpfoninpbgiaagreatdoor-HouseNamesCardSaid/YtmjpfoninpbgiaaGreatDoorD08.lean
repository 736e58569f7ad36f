/- A flow's element is asked. What a flow's elements tell is added up. The text of the examples' stream; a builder's bytes. Save. Words that a house's save has. A house that is nil, or was not made. errors.As at a fault; turned from the kit's worked example on errors.As. faulty. Flows of nothing; a house's names. -/
import Derived.Test.YtmjpfoninpbgiaaGreatDoorD07
import Derived.Test.YtmjpfoninpbgiaaGreatDoorShelf
import Derived.Shelf.Strings.BuilderF
import Derived.LaidEql
import Derived.Stop.Asserts
import Derived.RowKitTokens
set_option linter.unusedSimpArgs false
set_option linter.unusedVariables false
namespace Go.Proofs.YtmjpfoninpbgiaaGreatDoor
section
open Go.RowKit
set_option synthInstance.maxHeartbeats 2000000 in
set_option synthInstance.maxSize 100000 in
set_option maxRecDepth 100000 in
set_option maxHeartbeats 16000000 in
theorem hPot {w : World} : Calls Tryz.prog 118 #[.agg #[.int .u8 1, .complex .f64 0 0, .complex .f64 4611686018427387904 4607182418800017408, .float .f64 0], .complex .f64 0 0] w fun e w' => e = .returned (.tuple #[.complex .f64 0 0, .int .i64 0]) ∧ Kp0 w w' := by
  go_enter Tryz.func118, Tryz.ntmps118
  go_wp2_with (go_at_call 163; (with_reducible refine Calls.mono hValue0 ?_); rintro e wc ⟨rfl, _⟩)
  go_ret2
  exact ⟨rfl, ⟨Gr.out⟩⟩
set_option synthInstance.maxHeartbeats 2000000 in
set_option synthInstance.maxSize 100000 in
set_option maxRecDepth 100000 in
set_option maxHeartbeats 16000000 in
theorem hPotOne {w : World} {g b cap : Nat} {al : Value} [hg : BkC w g [.int .u8 1, .complex .f64 0 0, .complex .f64 4611686018427387904 4607182418800017408, .float .f64 0, .slice (some ⟨b, 0, none⟩) 1 cap, al] 147] : Calls Tryz.prog 75 #[.pointer (some ⟨g, 0, none⟩), .complex .f64 0 0] w fun e w' => e = .returned (.tuple #[.complex .f64 0 0, .int .i64 0]) ∧ Kp0 w w' := by
  have c0 := hg.out.cell (i := 0) rfl
  have c1 := hg.out.cell (i := 1) rfl
  have c2 := hg.out.cell (i := 2) rfl
  have c3 := hg.out.cell (i := 3) rfl
  go_enter Tryz.func75, Tryz.ntmps75
  go_wp2_with (go_at_call 118; (with_reducible refine Calls.mono hPot ?_); rintro e wc ⟨rfl, _⟩)
  go_ret2
  exact ⟨rfl, ⟨Gr.out⟩⟩
set_option synthInstance.maxHeartbeats 2000000 in
set_option synthInstance.maxSize 100000 in
set_option maxRecDepth 100000 in
set_option maxHeartbeats 16000000 in
theorem hSpd {w : World} : Calls Tryz.prog 119 #[.agg #[.int .u8 1, .complex .f64 0 0, .complex .f64 4611686018427387904 4607182418800017408, .float .f64 0], .complex .f64 0 0] w fun e w' => e = .returned (.tuple #[.complex .f64 4611686018427387904 4607182418800017408, .int .i64 0]) ∧ Kp0 w w' := by
  go_enter Tryz.func119, Tryz.ntmps119
  go_wp2_with (go_at_call 163; (with_reducible refine Calls.mono hValue1 ?_); rintro e wc ⟨rfl, _⟩)
  go_ret2
  exact ⟨rfl, ⟨Gr.out⟩⟩
set_option synthInstance.maxHeartbeats 2000000 in
set_option synthInstance.maxSize 100000 in
set_option maxRecDepth 100000 in
set_option maxHeartbeats 16000000 in
theorem hSpdOne {w : World} {g b cap : Nat} {al : Value} [hg : BkC w g [.int .u8 1, .complex .f64 0 0, .complex .f64 4611686018427387904 4607182418800017408, .float .f64 0, .slice (some ⟨b, 0, none⟩) 1 cap, al] 147] : Calls Tryz.prog 76 #[.pointer (some ⟨g, 0, none⟩), .complex .f64 0 0] w fun e w' => e = .returned (.tuple #[.complex .f64 4611686018427387904 4607182418800017408, .int .i64 0]) ∧ Kp0 w w' := by
  have c0 := hg.out.cell (i := 0) rfl
  have c1 := hg.out.cell (i := 1) rfl
  have c2 := hg.out.cell (i := 2) rfl
  have c3 := hg.out.cell (i := 3) rfl
  go_enter Tryz.func76, Tryz.ntmps76
  go_wp2_with (go_at_call 119; (with_reducible refine Calls.mono hSpd ?_); rintro e wc ⟨rfl, _⟩)
  go_ret2
  exact ⟨rfl, ⟨Gr.out⟩⟩
end
section
open Go.RowKit
theorem info145z : (Tryz.prog.info? 31).map (fun i => (i.zero, i.size, i.bytes)) = some (some (.complex .f64 0 0), 1, 16) := by kernel_rfl
theorem und145z : Tryz.prog.underlying 145 = some (.slice 31) := by kernel_rfl
def ECx (_ : World) (u : Value) (x : Nat × Nat) : Prop := u = .complex .f64 x.1 x.2
theorem kp0_of {w w' : World} (h : ∀ v0 : World, v0.heap.size ≤ w.heap.size → Below v0.heap.size v0 w → Below v0.heap.size v0 w') : Kp0 w w' := ⟨h w (Nat.le_refl _) (Below.refl _ _)⟩
theorem upW_of {w : World} {g : Nat} (h : w.heap.size ≤ g) : UpW w g := ⟨h⟩
theorem ox_cx {B : Nat} {w : World} {g c : Nat} {x : Nat × Nat} (h : Ox 31 ECx B w (.slice (some ⟨g, 0, none⟩) 1 c) [x]) : w.cell? ⟨g, 0, none⟩ = some (.complex .f64 x.1 x.2) := by
  obtain ⟨g1, off, u, h1, -, h3, h4⟩ := h.rw.at (i := 0) rfl
  simp only [Option.some.injEq, Addr.mk.injEq] at h1
  obtain ⟨rfl, rfl, -⟩ := h1
  rw [h4] at h3
  exact h3
theorem row_cx {w : World} {g : Nat} {x : Nat × Nat} (h : Bk w g [.complex .f64 x.1 x.2] 31) : Rw 31 ECx w (.slice (some ⟨g, 0, none⟩) 1 1) [x] := ⟨_, _, rfl, Nat.le_refl _, fun _ => ⟨_, 0, _, rfl, h, fun i y hx => by
  rcases i with _ | i
  · exact ⟨_, rfl, by simp at hx; rw [← hx]; rfl⟩
  · simp at hx⟩⟩
theorem eok_cx (T : Nat) : EOk T ECx := ⟨fun h _ => h, fun _ _ h => h, fun h => by rw [h]; rfl⟩
set_option synthInstance.maxHeartbeats 2000000 in
set_option synthInstance.maxSize 100000 in
set_option maxRecDepth 100000 in
set_option maxHeartbeats 16000000 in
theorem hPotOver {w : World} {g b cap : Nat} [hg : BkC w g [.int .u8 0, .complex .f64 0 0, .complex .f64 0 0, .float .f64 0, .slice (some ⟨b, 0, none⟩) 1 cap, .slice none 0 0] 147] [hb : FsC w b (4611686018427387904, 4607182418800017408)] : Calls Tryz.prog 74 #[.pointer (some ⟨g, 0, none⟩), .complex .f64 0 0, .func (.func 75) #[.pointer (some ⟨g, 0, none⟩)] #[]] w fun e w' => e = .returned (.tuple #[.complex .f64 0 0, .int .i64 0]) ∧ KpS w [g] w' := by
  haveI := okS21
  have c4 := hg.out.cell (i := 4) rfl
  have c5 := hg.out.cell (i := 5) rfl
  have C := hid (fun W : World => fun [FsC W b (4611686018427387904, 4607182418800017408)] => hCheck (s := (4611686018427387904, 4607182418800017408)) (g := b) (cap := cap) (w := W))
  have P := hid (fun W : World => hPlace (x := 0) (y := 0) (w := W) (by decide) (by decide) wit0 wit0)
  have F := hid (fun W : World => hPFinite (x := 0) (y := 0) (w := W) (by decide) (by decide))
  rw [fin0] at F
  obtain ⟨ti, hti, htz, hts, htb⟩ := info_parts info145z
  go_enter Tryz.func74, Tryz.ntmps74
  go_wp2_with (first | (go_at_call 22; (with_reducible refine Calls.mono (C.out _) ?_); rintro e wc ⟨rfl, _⟩) | (go_at_call 115; (with_reducible refine Calls.mono (P.out _) ?_); rintro e w' ⟨rfl, hw⟩; obtain rfl := hw.symm))
  go_loopw [34] (fun s34 wx => ∃ j : Int, s34 = .int .i64 j ∧ (j = 0 ∧ BkC wx g [.int .u8 0, .complex .f64 0 0, .complex .f64 0 0, .float .f64 0, .slice (some ⟨b, 0, none⟩) 1 cap, .slice none 0 0] 147 ∧ Kp0 w wx ∨ j = 1 ∧ ∃ h c : Nat, BkC wx g [.int .u8 1, .complex .f64 0 0, .complex .f64 4611686018427387904 4607182418800017408, .float .f64 0, .slice (some ⟨b, 0, none⟩) 1 cap, .slice (some ⟨h, 0, none⟩) 1 c] 147 ∧ wx.cell? ⟨h, 0, none⟩ = some (.complex .f64 0 0) ∧ KpS w [g] wx)) (fun s34 _ => 1 - (intOf s34).toNat)
  case atStart => exact ⟨0, rfl, .inl ⟨rfl, inferInstance, ⟨Gr.out⟩⟩⟩
  case round =>
    obtain ⟨j, rfl, hj⟩ := hrel
    rcases hj with ⟨rfl, ig, ik⟩ | ⟨rfl, h, c, ig, hc, ik⟩
    · have d0 := (inferInstance : FsC wr b (4611686018427387904, 4607182418800017408)).out.cell (i := 0) rfl
      have d1 := (inferInstance : FsC wr b (4611686018427387904, 4607182418800017408)).out.cell (i := 1) rfl
      have d2 := (inferInstance : FsC wr b (4611686018427387904, 4607182418800017408)).out.cell (i := 2) rfl
      have d3 := (inferInstance : FsC wr b (4611686018427387904, 4607182418800017408)).out.cell (i := 3) rfl
      have e0 := ig.out.cell (i := 0) rfl
      have e1 := ig.out.cell (i := 1) rfl
      have e2 := ig.out.cell (i := 2) rfl
      have e3 := ig.out.cell (i := 3) rfl
      have e5 := ig.out.cell (i := 5) rfl
      have f0 := ig.out.free 0
      have f1 := ig.out.free 1
      have f2 := ig.out.free 2
      have f3 := ig.out.free 3
      have f5 := ig.out.free 5
      go_wp2_with (first | (go_at_call 75; (with_reducible refine Calls.mono (hPotOne (g := g) (b := b) (cap := cap) (al := .slice none 0 0)) ?_); rintro e wc ⟨rfl, _⟩) | (at_builtin; go_loud (refine app_row (eok_cx 31) rfl _ _ 145 rfl _ ti _ 16 und145z hti htz hts htb rfl (by decide) rfl (Ox.nil _ _) rfl (m := [(0, 0)]) (row_cx (inferInstance : BkC _ _ _ _).out) (by decide) (by decide) (Nat.le_refl _) ?_; intro g' cap' n' wa hn' ho' hg' hbl hkE; obtain rfl : n' = 1 := hn'; haveI hwa := kp0_of hbl; haveI hug := upW_of hg'; clear hkE)))
      go_round
      case rel => exact ⟨1, rfl, .inr ⟨rfl, g', cap', inferInstance, (World.cell?_of_block (block_ne _ _ _ _ _ (Ne.symm (inferInstance : NeN g g').out))).trans (ox_cx ho'), ⟨GS.out⟩⟩⟩
      case measure => simp [intOf]
    · have e5 := ig.out.cell (i := 5) rfl
      go_wp2_with (first | (go_at_call 116; (with_reducible refine Calls.mono (hSumOne hc) ?_); rintro e wc ⟨rfl, hw⟩; obtain rfl := hw.symm) | (go_at_call 117; (with_reducible refine Calls.mono (F.out _) ?_); rintro e w' ⟨rfl, hw⟩; obtain rfl := hw.symm))
      go_ret2
      exact ⟨rfl, ⟨GS.out⟩⟩
set_option synthInstance.maxHeartbeats 2000000 in
set_option synthInstance.maxSize 100000 in
set_option maxRecDepth 100000 in
set_option maxHeartbeats 16000000 in
theorem hSpdOver {w : World} {g b cap : Nat} [hg : BkC w g [.int .u8 0, .complex .f64 0 0, .complex .f64 0 0, .float .f64 0, .slice (some ⟨b, 0, none⟩) 1 cap, .slice none 0 0] 147] [hb : FsC w b (4611686018427387904, 4607182418800017408)] : Calls Tryz.prog 74 #[.pointer (some ⟨g, 0, none⟩), .complex .f64 0 0, .func (.func 76) #[.pointer (some ⟨g, 0, none⟩)] #[]] w fun e w' => e = .returned (.tuple #[.complex .f64 4611686018427387904 4607182418800017408, .int .i64 0]) ∧ KpS w [g] w' := by
  haveI := okS21
  have c4 := hg.out.cell (i := 4) rfl
  have c5 := hg.out.cell (i := 5) rfl
  have C := hid (fun W : World => fun [FsC W b (4611686018427387904, 4607182418800017408)] => hCheck (s := (4611686018427387904, 4607182418800017408)) (g := b) (cap := cap) (w := W))
  have P := hid (fun W : World => hPlace (x := 0) (y := 0) (w := W) (by decide) (by decide) wit0 wit0)
  have F := hid (fun W : World => hPFinite (x := 4611686018427387904) (y := 4607182418800017408) (w := W) (by decide) (by decide))
  rw [finS2, finS1] at F
  obtain ⟨ti, hti, htz, hts, htb⟩ := info_parts info145z
  go_enter Tryz.func74, Tryz.ntmps74
  go_wp2_with (first | (go_at_call 22; (with_reducible refine Calls.mono (C.out _) ?_); rintro e wc ⟨rfl, _⟩) | (go_at_call 115; (with_reducible refine Calls.mono (P.out _) ?_); rintro e w' ⟨rfl, hw⟩; obtain rfl := hw.symm))
  go_loopw [34] (fun s34 wx => ∃ j : Int, s34 = .int .i64 j ∧ (j = 0 ∧ BkC wx g [.int .u8 0, .complex .f64 0 0, .complex .f64 0 0, .float .f64 0, .slice (some ⟨b, 0, none⟩) 1 cap, .slice none 0 0] 147 ∧ Kp0 w wx ∨ j = 1 ∧ ∃ h c : Nat, BkC wx g [.int .u8 1, .complex .f64 0 0, .complex .f64 4611686018427387904 4607182418800017408, .float .f64 0, .slice (some ⟨b, 0, none⟩) 1 cap, .slice (some ⟨h, 0, none⟩) 1 c] 147 ∧ wx.cell? ⟨h, 0, none⟩ = some (.complex .f64 4611686018427387904 4607182418800017408) ∧ KpS w [g] wx)) (fun s34 _ => 1 - (intOf s34).toNat)
  case atStart => exact ⟨0, rfl, .inl ⟨rfl, inferInstance, ⟨Gr.out⟩⟩⟩
  case round =>
    obtain ⟨j, rfl, hj⟩ := hrel
    rcases hj with ⟨rfl, ig, ik⟩ | ⟨rfl, h, c, ig, hc, ik⟩
    · have d0 := (inferInstance : FsC wr b (4611686018427387904, 4607182418800017408)).out.cell (i := 0) rfl
      have d1 := (inferInstance : FsC wr b (4611686018427387904, 4607182418800017408)).out.cell (i := 1) rfl
      have d2 := (inferInstance : FsC wr b (4611686018427387904, 4607182418800017408)).out.cell (i := 2) rfl
      have d3 := (inferInstance : FsC wr b (4611686018427387904, 4607182418800017408)).out.cell (i := 3) rfl
      have e0 := ig.out.cell (i := 0) rfl
      have e1 := ig.out.cell (i := 1) rfl
      have e2 := ig.out.cell (i := 2) rfl
      have e3 := ig.out.cell (i := 3) rfl
      have e5 := ig.out.cell (i := 5) rfl
      have f0 := ig.out.free 0
      have f1 := ig.out.free 1
      have f2 := ig.out.free 2
      have f3 := ig.out.free 3
      have f5 := ig.out.free 5
      go_wp2_with (first | (go_at_call 76; (with_reducible refine Calls.mono (hSpdOne (g := g) (b := b) (cap := cap) (al := .slice none 0 0)) ?_); rintro e wc ⟨rfl, _⟩) | (at_builtin; go_loud (refine app_row (eok_cx 31) rfl _ _ 145 rfl _ ti _ 16 und145z hti htz hts htb rfl (by decide) rfl (Ox.nil _ _) rfl (m := [(4611686018427387904, 4607182418800017408)]) (row_cx (inferInstance : BkC _ _ _ _).out) (by decide) (by decide) (Nat.le_refl _) ?_; intro g' cap' n' wa hn' ho' hg' hbl hkE; obtain rfl : n' = 1 := hn'; haveI hwa := kp0_of hbl; haveI hug := upW_of hg'; clear hkE)))
      go_round
      case rel => exact ⟨1, rfl, .inr ⟨rfl, g', cap', inferInstance, (World.cell?_of_block (block_ne _ _ _ _ _ (Ne.symm (inferInstance : NeN g g').out))).trans (ox_cx ho'), ⟨GS.out⟩⟩⟩
      case measure => simp [intOf]
    · have e5 := ig.out.cell (i := 5) rfl
      go_wp2_with (first | (go_at_call 116; (with_reducible refine Calls.mono (hSumOne hc) ?_); rintro e wc ⟨rfl, hw⟩; obtain rfl := hw.symm) | (go_at_call 117; (with_reducible refine Calls.mono (F.out _) ?_); rintro e w' ⟨rfl, hw⟩; obtain rfl := hw.symm))
      go_ret2
      exact ⟨rfl, ⟨GS.out⟩⟩
end
section
open Go.RowKit
/-- The stream of the house's examples, and its text. -/
def elA : El := (1, (0, 0), (4611686018427387904, 4607182418800017408), 0)
def saveL : By := flowW [elA]
def saveT : ByteArray := ⟨saveL.toArray⟩
theorem flowO_A : flowO [elA] = (saveL, 0) := by decide +kernel
theorem saveT_size : saveT.size = 139 := by decide +kernel
set_option synthInstance.maxHeartbeats 2000000 in
set_option synthInstance.maxSize 100000 in
set_option maxRecDepth 100000 in
set_option maxHeartbeats 16000000 in
theorem hSaveFlow {w : World} {g cap : Nat} [hf : FsC w g (4611686018427387904, 4607182418800017408)] (V : Vars w) (h10 : 10 ≤ w.heap.size) : Calls Tryz.prog 32 #[.agg #[.slice (some ⟨g, 0, none⟩) 1 cap]] w fun e w' => e = .returned (.tuple #[.string saveT, .int .i64 0]) ∧ Kp0 w w' := by
  have h := flow_w [elA] (by
    intro x hx
    rw [List.mem_singleton] at hx
    subst hx
    refine ⟨by decide, ?_, ?_, ?_, ?_, ?_⟩ <;> (unfold fits; decide)) (by decide) (some ⟨g, 0, none⟩) cap w V h10 (fun _ => ⟨g, rfl, fun i hi => by
      have h4 : i < 4 := hi
      have hx : (elS (4611686018427387904, 4607182418800017408))[i]? = some ((elS (4611686018427387904, 4607182418800017408))[i]'h4) := List.getElem?_eq_getElem h4
      rw [hf.out.cell hx]
      exact hx.symm⟩)
  rw [flowO_A] at h
  refine Calls.mono h ?_
  rintro e w' ⟨rfl, hb⟩
  exact ⟨rfl, ⟨hb⟩⟩
theorem hWrite (B b : Nat) (bs : List Value) (s : ByteArray) (w : World) (h : Lib.IsBuilderF 84 5 B b bs w) (hlen : bs.length + s.size ≤ 140737488355328) (hBw : B ≤ w.heap.size) :
    Calls Tryz.prog 30 #[.pointer (some ⟨b, 0, none⟩), .string s] w fun e w' => e = .returned (.tuple #[.int .i64 s.size, .nilIface]) ∧ (Lib.BuilderAtF 84 5 B b (.pointer (some ⟨b, 0, none⟩)) (bs ++ Lib.strCells s) w' ∧ Below B w w') :=
  Any.Builder_WriteString_f { Tryz.lays105 with } Tryz.Builder_Extra_105 B b bs s w h hlen hBw
theorem byteCells_app (l m : List UInt8) : Lib.byteCells l ++ Lib.byteCells m = Lib.byteCells (l ++ m) := by
  unfold Lib.byteCells
  rw [List.map_append]
theorem byteCells_str (s : ByteArray) : Lib.strCells s = Lib.byteCells s.data.toList := by
  unfold Lib.strCells Lib.byteCells
  rfl
end
section
open Go.RowKit
open Go.Sort
/-- A builder that holds these bytes. -/
class BuC (w : World) (b : Nat) (l : outParam (List UInt8)) : Prop where
  out : Lib.IsBuilderF 84 5 b b (Lib.byteCells l) w
theorem builder_below {w w' : World} {B b : Nat} {p : Value} {bs : List Value} (h : Lib.BuilderAtF 84 5 B b p bs w) (k : Below w.heap.size w w') : Lib.BuilderAtF 84 5 B b p bs w' := by
  obtain ⟨hB, v, hb, ⟨ho1, ho2⟩, hne⟩ := h
  refine ⟨hB, v, (k.block b (lt_of_block hb)).trans hb, ⟨ho1, ?_⟩, hne⟩
  rcases ho2 with h | ⟨g, cap, cur, fz, rfl, h1, h2, h3⟩
  · exact .inl h
  · exact .inr ⟨g, cap, cur, fz, rfl, h1, (k.block g (lt_of_block h2)).trans h2, h3⟩
instance buC_kp0 (W w' : World) (b : Nat) (l : List UInt8) [k : Kp0 W w'] [h : BuC W b l] : BuC w' b l := ⟨by
  rcases h.out with h | h
  · exact .inl (builder_below h k.out)
  · exact .inr (builder_below h k.out)⟩
instance buC_alloc (w : World) (b : Nat) (l : List UInt8) (o : Obj) [h : BuC w b l] : BuC (w.alloc o) b l := ⟨by
  have k : Below w.heap.size w (w.alloc o) := (Below.refl _ _).alloc (Nat.le_refl _) _
  rcases h.out with h | h
  · exact .inl (builder_below h k)
  · exact .inr (builder_below h k)⟩
instance buC_new (w : World) : BuC (w.alloc (.cells #[.pointer none, .slice none 0 0] 84)) w.heap.size [] := ⟨.inl ⟨Nat.le_refl _, .slice none 0 0, block_at w _ _, World.ownsRowF_nil _ _ _ _, by simp [Value.ownBlock]⟩⟩
theorem wrote {w w' : World} {b : Nat} {l : List UInt8} {s : ByteArray} (h : Lib.BuilderAtF 84 5 b b (.pointer (some ⟨b, 0, none⟩)) (Lib.byteCells l ++ Lib.strCells s) w') : BuC w' b (l ++ s.data.toList) := ⟨by
  rw [byteCells_str, byteCells_app] at h
  exact .inr h⟩
theorem hWriteC {w0 W : World} {b : Nat} {l : List UInt8} {s : ByteArray} (l' : List UInt8) (hb : b = w0.heap.size) [h : BuC W b l] (hg : Below w0.heap.size w0 W) (hl : l ++ s.data.toList = l') (hlen : l'.length ≤ 1000000) :
    Calls Tryz.prog 30 #[.pointer (some ⟨b, 0, none⟩), .string s] W fun e w' => e = .returned (.tuple #[.int .i64 s.size, .nilIface]) ∧ BuC w' b l' ∧ Kp0 w0 w' := by
  subst hl
  have hs : s.size = s.data.toList.length := by simp
  rw [List.length_append] at hlen
  refine Calls.mono (hWrite b b _ s W h.out (by rw [show (Lib.byteCells l).length = l.length by simp [Lib.byteCells]]; omega) (by rw [hb]; exact hg.size)) ?_
  rintro e w' ⟨rfl, h1, h2⟩
  refine ⟨rfl, wrote (w := W) h1, ?_⟩
  rw [hb] at h2
  exact ⟨Below.trans hg h2⟩
theorem hStringC {w0 W : World} {b : Nat} {l : List UInt8} (hb : b = w0.heap.size) [h : BuC W b l] (hg : Below w0.heap.size w0 W) (h0 : l ≠ []) :
    Calls Tryz.prog 34 #[.pointer (some ⟨b, 0, none⟩)] W fun e w' => e = .returned (.string ⟨l.toArray⟩) ∧ BuC w' b l ∧ Kp0 w0 w' := by
  refine Calls.mono (Tryz.Builder_String_f b b l W h.out h0) ?_
  rintro e w' ⟨rfl, h1, h2⟩
  refine ⟨rfl, ⟨h1⟩, ?_⟩
  rw [hb] at h2
  exact ⟨Below.trans hg h2⟩
theorem hLenC {W : World} {b : Nat} {l : List UInt8} [h : BuC W b l] : Calls Tryz.prog 35 #[.pointer (some ⟨b, 0, none⟩)] W fun e w' => e = .returned (.int .i64 l.length) ∧ w' = W := by
  refine Calls.mono (Tryz.Builder_Len_f b b _ W h.out) ?_
  rintro e w' ⟨rfl, rfl⟩
  exact ⟨by simp [Lib.byteCells], rfl⟩
/-- The text of a house that has a stream by the name 'wing'. -/
def wingB : ByteArray := ⟨#[119, 105, 110, 103]⟩
def itoa1 : ByteArray := ⟨(Lib.decDigits 1).toArray⟩
def itoa139 : ByteArray := ⟨(decW 139).toArray⟩
def hou1 : By := (({ data := #[101, 100, 100, 121, 32, 104, 111, 117, 115, 101, 32, 49, 10, 110, 97, 109, 101, 115, 32] } : ByteArray) ++ itoa1 ++ { data := #[10] }).data.toList
def hou2 : By := hou1 ++ (({ data := #[102, 108, 111, 119, 32] } : ByteArray) ++ wingB ++ { data := #[32] } ++ itoa139 ++ { data := #[10] } ++ saveT).data.toList
def houX : ByteArray := ⟨(hexW 16 (sumS hou2)).toArray⟩
def hou3 : By := hou2 ++ (({ data := #[115, 117, 109, 32] } : ByteArray) ++ houX ++ { data := #[10] }).data.toList
theorem hou1_len : hou1.length = 21 := by decide +kernel
theorem hou2_len : hou2.length = 174 := by decide +kernel
theorem hou3_len : hou3.length = 195 := by decide +kernel
theorem hItoa139 {w : World} (V : Vars w) : Calls Tryz.prog 31 #[.int .i64 139] w fun e w' => e = .returned (.string itoa139) ∧ Kp0 w w' := by
  have hi : Calls Tryz.prog 31 #[.int .i64 139] w _ := itoa_w 139 (by decide) w V
  refine Calls.mono hi ?_
  rintro e w' ⟨rfl, hb⟩
  exact ⟨rfl, ⟨hb⟩⟩
set_option synthInstance.maxHeartbeats 2000000 in
set_option synthInstance.maxSize 100000 in
set_option maxRecDepth 100000 in
set_option maxHeartbeats 16000000 in
theorem hSave {w : World} {h m n : Nat} {D : DataW Unit} {F : List UInt8 → Option (Nat × Nat)} [hh : BkC w h [.bool true, .int .i32 0, .int .u32 0, .map (some m)] 51] (hm : Mp w m n D F) (hn : n < 1000000) (hk : strKeys D = [wingB.data.toList]) (hF : F wingB.data.toList = some (4611686018427387904, 4607182418800017408)) (V : Vars w) (h10 : 10 ≤ w.heap.size) : Calls Tryz.prog 11 #[.pointer (some ⟨h, 0, none⟩)] w fun e w' => e = .returned (.tuple #[.string ⟨hou3.toArray⟩, .int .i64 0]) ∧ Kp0 w w' := by
  have hm' := hid hm
  have HN := hid hn
  have HK := hid hk
  have HF := hid hF
  have V' := hid V
  have H10 := hid h10
  have hI1 : Hid (∀ W : World, Calls Tryz.prog 31 #[.int .i64 1] W fun e w' => e = .returned (.string itoa1) ∧ w' = W) := hid (fun W => Tryz.strconv_Itoa_small 1 (by decide) W)
  have z139 : itoa139.size = 3 := by decide +kernel
  have zw : wingB.size = 4 := by decide +kernel
  have zt := saveT_size
  have zx : houX.size = 16 := by decide +kernel
  have z1 : itoa1.size = 1 := by decide +kernel
  clear hm hn hk hF V h10
  go_enter Tryz.func11, Tryz.ntmps11
  go_wp2_with (first | (go_at_call 24; (with_reducible refine Calls.mono (hKnownN (m := m) (h := h)) ?_); rintro e wk ⟨rfl, hk0⟩; have hmk := hid (hm'.out.below (Gr.out (v := w) (W := wk)))) | (go_at_call 29; (with_reducible refine Calls.mono (hAll (nm := wingB) hmk.out HN.out (by decide) HK.out HF.out) ?_); rintro e wa ⟨gn, capn, gf, gg, capg, rfl, hc1, hc2, hc3, hc4⟩) | (go_at_call 31; (with_reducible refine Calls.mono (hI1.out _) ?_); rintro e wi ⟨rfl, hw⟩; obtain rfl := hw.symm) | (go_at_call 30; (with_reducible refine Calls.mono (hWriteC (w0 := wa) hou1 rfl Gr.out rfl (by rw [hou1_len]; decide)) ?_); rintro e w1 ⟨rfl, hb1, hg1⟩))
  have hgl : gn < wa.heap.size := World.block_lt_of_cell? _ _ hc1
  have hfl : gf < wa.heap.size := World.block_lt_of_cell? _ _ hc2
  go_loopw [30] (fun s30 wx => ∃ j : Int, s30 = .int .i64 j ∧ Kp0 wa wx ∧ (j = 0 ∧ BuC wx wa.heap.size hou1 ∨ j = 1 ∧ BuC wx wa.heap.size hou2)) (fun s30 _ => 1 - (intOf s30).toNat)
  case atStart => exact ⟨0, rfl, inferInstance, .inl ⟨rfl, inferInstance⟩⟩
  case round =>
    obtain ⟨j, rfl, hkw, hj⟩ := hrel
    have d1 : wr.cell? ⟨gn, 0, none⟩ = some (.string wingB) := (World.cell?_of_block (w := wa) (hkw.out.block gn hgl)).trans hc1
    have d2 : wr.cell? ⟨gf, 0, none⟩ = some (.slice (some ⟨gg, 0, none⟩) 1 capg) := (World.cell?_of_block (w := wa) (hkw.out.block gf hfl)).trans hc2
    haveI : Has wr gn := ⟨World.block_lt_of_cell? _ _ d1⟩
    haveI : Has wr gf := ⟨World.block_lt_of_cell? _ _ d2⟩
    have hgw : Below w.heap.size w wr := Gr.out
    have VW := hid (fun (W : World) (hg : Below w.heap.size w W) => V'.out.keep (Keeps.of_below (S := []) hg) H10.out (by simp))
    have HGW := hid hgw
    clear hgw
    rcases hj with ⟨rfl, ib⟩ | ⟨rfl, ib⟩
    · go_wp2_with (first | (go_at_call 32; (with_reducible refine Calls.mono (hSaveFlow (VW.out _ HGW.out) (Nat.le_trans H10.out HGW.out.size)) ?_); rintro e wf ⟨rfl, hf1⟩; have HGF := hid (Gr.out (v := w) (W := wf))) | (go_at_call 31; (with_reducible refine Calls.mono (hItoa139 (VW.out _ HGF.out)) ?_); rintro e wi ⟨rfl, hi1⟩) | (go_at_call 30; (with_reducible refine Calls.mono (hWriteC (w0 := wa) hou2 rfl Gr.out rfl (by rw [hou2_len]; decide)) ?_); rintro e w2 ⟨rfl, hb2, hg2⟩))
      go_round
      case rel => exact ⟨1, rfl, inferInstance, .inr ⟨rfl, inferInstance⟩⟩
      case measure => simp [intOf]
    · go_wp2_with (first | (go_at_call 34; (with_reducible refine Calls.mono (hStringC (w0 := wa) rfl Gr.out (by decide +kernel)) ?_); rintro e ws ⟨rfl, hs1, hs2⟩; have HGS := hid (Gr.out (v := w) (W := ws))) | (go_at_call 33; (with_reducible refine Calls.mono (hSum (s := ⟨hou2.toArray⟩) (by decide +kernel) (VW.out _ HGS.out) (Nat.le_trans H10.out HGS.out.size)) ?_); rintro e wm ⟨rfl, hm1⟩; haveI hm2 : Kp0 ws wm := ⟨hm1⟩; rw [show (⟨(hexW 16 (sumS (⟨hou2.toArray⟩ : ByteArray).data.toList)).toArray⟩ : ByteArray) = houX from rfl]) | (go_at_call 30; (with_reducible refine Calls.mono (hWriteC (w0 := wa) hou3 rfl Gr.out rfl (by rw [hou3_len]; decide)) ?_); rintro e w3 ⟨rfl, hb3, hg3⟩) | (go_at_call 35; (with_reducible refine Calls.mono hLenC ?_); rintro e wl ⟨rfl, hw⟩; obtain rfl := hw.symm; rw [hou3_len]))
      go_ret2
      exact ⟨rfl, ⟨Gr.out⟩⟩
end
section
open Go.RowKit
/-- A house's reader reads words. -/
def wordS (L : By) : List By → Nat → Nat × Bool
  | [], i => (i, true)
  | x :: r, i => if x.isPrefixOf (L.drop i) then wordS L r (i + x.length) else (i, false)
theorem pref_le {s x : ByteArray} {i : Nat} (h : x.data.toList.isPrefixOf (s.data.toList.drop i) = true) (hi : i ≤ s.size) : i + x.size ≤ s.size := by
  obtain ⟨t, ht⟩ := List.isPrefixOf_iff_prefix.1 h
  have h1 : (s.data.toList.drop i).length = x.data.toList.length + t.length := by rw [← ht]; simp
  simp at h1
  have e1 : s.data.size = s.size := rfl
  have e2 : x.data.size = x.size := rfl
  omega
theorem wordS_le {s : ByteArray} : ∀ (ws : List ByteArray) (i : Nat), i ≤ s.size → (wordS s.data.toList (ws.map fun x => x.data.toList) i).1 ≤ s.size
  | [], i, h => h
  | x :: r, i, h => by
    simp only [List.map_cons, wordS]
    split
    · rename_i hp
      have := pref_le hp h
      have e : i + x.data.toList.length = i + x.size := by simp
      rw [e]
      exact wordS_le r _ this
    · exact h
set_option synthInstance.maxHeartbeats 2000000 in
set_option synthInstance.maxSize 100000 in
set_option maxRecDepth 100000 in
set_option maxHeartbeats 16000000 in
theorem hWrong {c p : Int} {w : World} : Calls Tryz.prog 39 #[.int .i64 c, .int .i64 p] w fun e w' => e = .returned (.pointer (some ⟨w.heap.size, 0, none⟩)) ∧ w' = w.alloc (.cells #[.int .i64 c, .int .i64 p] 58) := by
  go_enter Tryz.func39, Tryz.ntmps39
  go_wp2_with fail
  go_ret
  exact ⟨rfl, rfl⟩
set_option synthInstance.maxHeartbeats 2000000 in
set_option synthInstance.maxSize 100000 in
set_option maxRecDepth 100000 in
set_option maxHeartbeats 16000000 in
theorem hWord {w : World} {r g n c i : Nat} {s : ByteArray} (ws : List ByteArray) [hr : BkC w r [.string s, .int .i64 (i : Nat)] 131] (hi : i ≤ s.size) (hs : s.size ≤ 70000) (hn : ws.length = n) (hn2 : n ≤ 100) (hg : g ≠ r) (hg2 : g < w.heap.size) (hc : ∀ j, j < n → w.cell? ⟨g, j, none⟩ = some (.string (ws.getD j default))) (hok : (wordS s.data.toList (ws.map fun x => x.data.toList) i).2 = true) :
    Calls Tryz.prog 67 #[.pointer (some ⟨r, 0, none⟩), .slice (some ⟨g, 0, none⟩) n c] w fun e w' => e = .returned (.pointer none) ∧ BkC w' r [.string s, .int .i64 ((wordS s.data.toList (ws.map fun x => x.data.toList) i).1 : Nat)] 131 ∧ KpS w [r] w' := by
  have C := hid hc
  have HOK := hid hok
  clear hc hok
  obtain ⟨Q, hQ⟩ : ∃ Q, Q = wordS s.data.toList (ws.map fun x => x.data.toList) i := ⟨_, rfl⟩
  rw [← hQ] at HOK ⊢
  have HQ := hid hQ
  clear hQ
  go_enter Tryz.func67, Tryz.ntmps67
  go_wp2_with fail
  go_loopw [9] (fun t wr => ∃ (k i' : Nat), k ≤ n ∧ t = .int .i64 k ∧ i' ≤ s.size ∧ BkC wr r [.string s, .int .i64 (i' : Nat)] 131 ∧ KpS w [r] wr ∧ Hid (wordS s.data.toList ((ws.drop k).map fun x => x.data.toList) i' = Q)) (fun t _ => n - (intOf t).toNat)
  case atStart => exact ⟨0, i, Nat.zero_le _, rfl, hi, inferInstance, ⟨GS.out⟩, hid HQ.out.symm⟩
  case round =>
    obtain ⟨k, i', hk, rfl, hi', ib, ik, hm⟩ := hrel
    by_cases hlt : k < n
    · have ck : wr.cell? ⟨g, k, none⟩ = some (.string (ws.getD k default)) := ((ik.out.cell (q := ⟨g, k, none⟩) hg2 (by simpa using hg))).trans (C.out k hlt)
      have hdr : ws.drop k = ws.getD k default :: ws.drop (k + 1) := by
        rw [List.drop_eq_getElem_cons (by omega), List.getD_eq_getElem?_getD, List.getElem?_eq_getElem (by omega)]
        rfl
      have hm' := hm.out
      clear hm
      rw [hdr, List.map_cons] at hm'
      generalize ws.getD k default = x at ck hm'
      clear hdr
      cases hp : x.data.toList.isPrefixOf (s.data.toList.drop i')
      · exfalso
        rw [wordS, if_neg (by rw [hp]; decide)] at hm'
        have := HOK.out
        rw [← hm'] at this
        cases this
      · have hpe := prefix_eq s x i' hi'
        rw [hp] at hpe
        have hpf := hpe
        rw [Lib.extract_data] at hpf
        have hle := pref_le hp hi'
        rw [wordS, if_pos hp] at hm'
        have HM := hid hm'
        have d0 := ib.out.cell (i := 0) rfl
        have d1 := ib.out.cell (i := 1) rfl
        have f1 := ib.out.free 1
        have hglt := World.block_lt_of_cell? _ _ ck
        clear hp hm'
        go_wp2_with fail
        go_quiet ((go_at_call 103; exact Calls.quiet_of_same (Tryz.strings_HasPrefix _ _ _)))
        go_wp2_with fail
        go_roundw
        case rel =>
          haveI ib2 : BkC (wr.drewN nq) r [.string s, .int .i64 (i' : Nat)] 131 := ⟨ib.out⟩
          haveI ik2 : GS w [r] (wr.drewN nq) := ⟨(GS.out (v := w) (S := [r]) (W := wr)).drewN nq⟩
          refine ⟨k + 1, i' + x.size, by omega, by rfl, hle, ?_, ⟨GS.out⟩, hid (by have := HM.out; rwa [show x.data.toList.length = x.size by simp] at this)⟩
          have := (inferInstance : BkC ((wr.drewN nq).setCell ⟨r, 1, none⟩ (.int .i64 ((i' : Int) + (x.size : Int)))) r _ 131)
          exact this
        case measure => simp [intOf]; omega
    · obtain rfl : k = n := by omega
      have hm' := hm.out
      rw [List.drop_of_length_le (by omega)] at hm'
      have e1 : Q.1 = i' := by rw [← hm']; rfl
      clear hm hm'
      go_wp2_with fail
      go_ret
      exact ⟨rfl, by rw [e1]; infer_instance, ⟨GS.out⟩⟩
end
section
open Go.RowKit
set_option synthInstance.maxHeartbeats 2000000 in
set_option synthInstance.maxSize 100000 in
set_option maxRecDepth 100000 in
set_option maxHeartbeats 16000000 in
theorem hKnownNil {a b : Value} {w : World} : Calls Tryz.prog 24 #[.pointer none, a, b] w fun e w' => e = .returned (.int .i64 1) ∧ w' = w := by
  go_enter Tryz.func24, Tryz.ntmps24
  go_wp2_with fail
  go_ret
  exact ⟨rfl, rfl⟩
set_option synthInstance.maxHeartbeats 2000000 in
set_option synthInstance.maxSize 100000 in
set_option maxRecDepth 100000 in
set_option maxHeartbeats 16000000 in
theorem hKnownPl {a b : Value} {h : Nat} {w : World} [hh : BkC w h [.bool false, .int .i32 0, .int .u32 0, .map none] 51] : Calls Tryz.prog 24 #[.pointer (some ⟨h, 0, none⟩), a, b] w fun e w' => e = .returned (.int .i64 1) ∧ w' = w := by
  have c0 := hh.out.cell (i := 0) rfl
  go_enter Tryz.func24, Tryz.ntmps24
  go_wp2_with fail
  go_ret
  exact ⟨rfl, rfl⟩
set_option synthInstance.maxHeartbeats 2000000 in
set_option synthInstance.maxSize 100000 in
set_option maxRecDepth 100000 in
set_option maxHeartbeats 16000000 in
theorem hgetNil {nm : ByteArray} {w : World} : Calls Tryz.prog 23 #[.pointer none, .string nm] w fun e w' => e = .returned (.tuple #[.agg #[.slice none 0 0], .int .i64 1]) ∧ Kp0 w w' := by
  go_enter_defers Tryz.func23, Tryz.ntmps23
  go_wp2_with (go_at_call 24; (with_reducible refine Calls.mono hKnownNil ?_); rintro e wc ⟨rfl, hw⟩; obtain rfl := hw.symm)
  exact ⟨_, res_cell_tmp rfl rfl (by rfl) (by rfl) (by rfl), rfl, ⟨Gr.out⟩⟩
set_option synthInstance.maxHeartbeats 2000000 in
set_option synthInstance.maxSize 100000 in
set_option maxRecDepth 100000 in
set_option maxHeartbeats 16000000 in
theorem hGetNil {nm : ByteArray} {w : World} : Calls Tryz.prog 9 #[.pointer none, .string nm] w fun e w' => e = .returned (.tuple #[.agg #[.slice none 0 0], .int .i64 1]) ∧ Kp0 w w' := by
  go_enter Tryz.func9, Tryz.ntmps9
  go_wp2_with (go_at_call 23; (with_reducible refine Calls.mono hgetNil ?_); rintro e wc ⟨rfl, hk⟩)
  refine ret_cell_tmp rfl rfl rfl (by rfl) (by rfl) (by rfl) ?_
  exact ⟨rfl, ⟨Gr.out⟩⟩
set_option synthInstance.maxHeartbeats 2000000 in
set_option synthInstance.maxSize 100000 in
set_option maxRecDepth 100000 in
set_option maxHeartbeats 16000000 in
theorem hSavePl {h : Nat} {w : World} [hh : BkC w h [.bool false, .int .i32 0, .int .u32 0, .map none] 51] : Calls Tryz.prog 11 #[.pointer (some ⟨h, 0, none⟩)] w fun e w' => e = .returned (.tuple #[.string ⟨#[]⟩, .int .i64 1]) ∧ Kp0 w w' := by
  go_enter Tryz.func11, Tryz.ntmps11
  go_wp2_with (go_at_call 24; (with_reducible refine Calls.mono (hKnownPl (h := h)) ?_); rintro e wc ⟨rfl, hw⟩; obtain rfl := hw.symm)
  go_ret2
  exact ⟨rfl, ⟨Gr.out⟩⟩
set_option synthInstance.maxHeartbeats 2000000 in
set_option synthInstance.maxSize 100000 in
set_option maxRecDepth 100000 in
set_option maxHeartbeats 16000000 in
theorem hAllPl {h : Nat} {w : World} [hh : BkC w h [.bool false, .int .i32 0, .int .u32 0, .map none] 51] : Calls Tryz.prog 12 #[.pointer (some ⟨h, 0, none⟩)] w fun e w' => e = .returned (.func (.func 36) #[] #[]) ∧ Kp0 w w' := by
  go_enter Tryz.func12, Tryz.ntmps12
  go_wp2_with (go_at_call 24; (with_reducible refine Calls.mono (hKnownPl (h := h)) ?_); rintro e wc ⟨rfl, hw⟩; obtain rfl := hw.symm)
  go_ret
  exact ⟨rfl, ⟨Gr.out⟩⟩
set_option synthInstance.maxHeartbeats 2000000 in
set_option synthInstance.maxSize 100000 in
set_option maxRecDepth 100000 in
set_option maxHeartbeats 16000000 in
theorem hAll1 {v : Value} {w : World} : Calls Tryz.prog 36 #[v] w fun e w' => e = .returned (.tuple #[]) ∧ w' = w := by
  go_enter Tryz.func36, Tryz.ntmps36
  go_wp2_with fail
  go_end0
  exact ⟨rfl, rfl⟩
set_option synthInstance.maxHeartbeats 2000000 in
set_option synthInstance.maxSize 100000 in
set_option maxRecDepth 100000 in
set_option maxHeartbeats 16000000 in
theorem hChangePl {h : Nat} {nm : ByteArray} {a f : Value} {w : World} [hh : BkC w h [.bool false, .int .i32 0, .int .u32 0, .map none] 51] : Calls Tryz.prog 19 #[.pointer (some ⟨h, 0, none⟩), .string nm, a, f] w fun e w' => e = .returned (.int .i64 1) ∧ Kp0 w w' := by
  go_enter_defers Tryz.func19, Tryz.ntmps19
  go_wp2_with (go_at_call 24; (with_reducible refine Calls.mono (hKnownPl (h := h)) ?_); rintro e wc ⟨rfl, hw⟩; obtain rfl := hw.symm)
  exact ⟨_, results_tmp rfl _ _ _, rfl, ⟨Gr.out⟩⟩
set_option synthInstance.maxHeartbeats 2000000 in
set_option synthInstance.maxSize 100000 in
set_option maxRecDepth 100000 in
set_option maxHeartbeats 16000000 in
theorem hPutPl {h : Nat} {nm : ByteArray} {v : Value} {w : World} [hh : BkC w h [.bool false, .int .i32 0, .int .u32 0, .map none] 51] : Calls Tryz.prog 8 #[.pointer (some ⟨h, 0, none⟩), .string nm, .agg #[v]] w fun e w' => e = .returned (.int .i64 1) ∧ Kp0 w w' := by
  have hmf : ∀ (fn : Fn) (first cap : Array Value) (w : World), (Instr.makeFunc fn first cap).run Tryz.prog w = .ok (.func fn first cap) w := fun _ _ _ _ => rfl
  go_enter Tryz.func8, Tryz.ntmps8
  go_wp2_with (go_at_call 19; (with_reducible refine Calls.mono (hChangePl (h := h)) ?_); rintro e wc ⟨rfl, hk⟩)
  go_ret
  exact ⟨rfl, ⟨Gr.out⟩⟩
set_option synthInstance.maxHeartbeats 2000000 in
set_option synthInstance.maxSize 100000 in
set_option maxRecDepth 100000 in
set_option maxHeartbeats 16000000 in
theorem hDropNil {nm : ByteArray} {w : World} : Calls Tryz.prog 15 #[.pointer none, .string nm] w fun e w' => e = .returned (.int .i64 1) ∧ Kp0 w w' := by
  go_enter_defers Tryz.func15, Tryz.ntmps15
  go_wp2_with (go_at_call 24; (with_reducible refine Calls.mono hKnownNil ?_); rintro e wc ⟨rfl, hw⟩; obtain rfl := hw.symm)
  exact ⟨_, results_tmp rfl _ _ _, rfl, ⟨Gr.out⟩⟩
set_option synthInstance.maxHeartbeats 2000000 in
set_option synthInstance.maxSize 100000 in
set_option maxRecDepth 100000 in
set_option maxHeartbeats 16000000 in
theorem hNamesNil {w : World} : Calls Tryz.prog 10 #[.pointer none] w fun e w' => e = .returned (.slice none 0 0) ∧ Kp0 w w' := by
  go_enter_defers Tryz.func10, Tryz.ntmps10
  go_wp2_with (go_at_call 24; (with_reducible refine Calls.mono hKnownNil ?_); rintro e wc ⟨rfl, hw⟩; obtain rfl := hw.symm)
  exact ⟨_, results_tmp rfl _ _ _, rfl, ⟨Gr.out⟩⟩
set_option synthInstance.maxHeartbeats 2000000 in
set_option synthInstance.maxSize 100000 in
set_option maxRecDepth 100000 in
set_option maxHeartbeats 16000000 in
theorem hLoadNil {s : ByteArray} {w : World} : Calls Tryz.prog 14 #[.pointer none, .string s] w fun e w' => e = .returned (.iface 93 (.pointer (some ⟨w.heap.size, 0, none⟩))) ∧ w' = w.alloc (.cells #[.int .i64 1, .int .i64 0] 58) := by
  go_enter_defers Tryz.func14, Tryz.ntmps14
  go_wp2_with (first | (go_at_call 24; (with_reducible refine Calls.mono hKnownNil ?_); rintro e wc ⟨rfl, hw⟩; obtain rfl := hw.symm) | (go_at_call 39; (with_reducible refine Calls.mono hWrong ?_); rintro e wc ⟨rfl, hw⟩; obtain rfl := hw.symm))
  exact ⟨_, results_tmp rfl _ _ _, rfl, rfl⟩
end
section
open Go.RowKit
open Go.RowKit Go.Extern.Stop Go.Stop Go.Extern
/-- errors.As(nil, target). -/
theorem as_nil (t : Value) (w : World) :
    Calls Tryz.prog 38 #[.nilIface, t] w fun e w' => e = .returned (.bool false) ∧ w' = w := by
  go_enter Tryz.func38, Tryz.ntmps38
  go_wp2
  go_ret
  exact ⟨rfl, rfl⟩

/-! ### CLOSED FACTS ON THE MODEL's ENTRIES FOR internal/reflectlite, at this program's types: 25: *p.E · 27: **p.E · 23: error · 45: reflectlite's rtype · 1: how many package-level variables the dump has -/
theorem Tryz.valueOf27 (t : Addr) (w : World) : (ReflectliteValue.unpack (.iface 95 (.pointer (some t)))).run Tryz.prog w
    = .ok (.agg #[.pointer (some ⟨10, 95, none⟩), .pointer (some ⟨w.heap.size, 0, none⟩), .int .u64 150]) (w.alloc (.cells #[.pointer (some t)] 95)) := by kernel_rfl
theorem Tryz.type27 (a : Addr) (w : World) : (ReflectliteValue.methodAny (ReflectliteValue.valueError "reflectlite.Value.Type" 0) (fun t _ _ _ => ReflectliteType.toType t) #[.agg #[.pointer (some ⟨10, 95, none⟩), .pointer (some a), .int .u64 150]]).run Tryz.prog w
    = .ok (.iface 179 (.agg #[.pointer (some ⟨10, 95, none⟩)])) w := by kernel_rfl
theorem Tryz.methodKind (h : Value) (w : World) : (Go.method 357 179 (.agg #[h]) "Kind").run Tryz.prog w = .ok (236, h) w := by kernel_rfl
theorem Tryz.kind27 (w : World) : ((ReflectliteType.abiMethod fun t => (fun a : Nat => Value.int IntKind.u8 (a : Int)) <$> Rtype.kind t) #[.pointer (some ⟨10, 95, none⟩)]).run Tryz.prog w = .ok (.int .u8 22) w := by kernel_rfl
theorem Tryz.kind25 (w : World) : ((ReflectliteType.abiMethod fun t => (fun a : Nat => Value.int IntKind.u8 (a : Int)) <$> Rtype.kind t) #[.pointer (some ⟨10, 93, none⟩)]).run Tryz.prog w = .ok (.int .u8 22) w := by kernel_rfl

/-! ### THE ENTRIES THAT READ OR WRITE MEMORY: laws with a premise on the cell (after Derived/Lib/ReflectliteSlice.lean's manner: each unfolding a lemma of its own, by rfl) -/
theorem rlm (z : Sem Value) (f : TypeId → Addr → Nat → Nat → Sem Value) (v : Value) :
    ReflectliteValue.method z f #[v] = (do match ← ReflectliteValue.parts v with | none => z | some (t, a, fl) => f t a fl (fl % 32)) := rfl
theorem Tryz.parts27 (a : Addr) (w : World) : (ReflectliteValue.parts (.agg #[.pointer (some ⟨10, 95, none⟩), .pointer (some a), .int .u64 150])).run Tryz.prog w = .ok (some (95, a, 150)) w := by kernel_rfl
/-- (Value).IsNil at the Value of a **p.E that is not nil. -/
theorem Tryz.isNil27 (a p : Addr) (W : World) (ha : W.cell? a = some (.pointer (some p))) :
    (ReflectliteValue.method (ReflectliteValue.valueError "reflectlite.Value.IsNil" 0) ReflectliteValue.isNil #[.agg #[.pointer (some ⟨10, 95, none⟩), .pointer (some a), .int .u64 150]]).run Tryz.prog W = .ok (.bool false) W := by
  rw [rlm]
  simp only [Sem.run_bind, Tryz.parts27, Result.andThen]
  simp [ReflectliteValue.isNil, loadVar, isAgg, underlying, Tryz.underlying95, ha, Result.andThen]

theorem Tryz.methodElem (h : Value) (w : World) : (Go.method 357 179 (.agg #[h]) "Elem").run Tryz.prog w = .ok (248, .agg #[h]) w := by kernel_rfl
theorem Tryz.methodImplements (h : Value) (w : World) : (Go.method 357 179 (.agg #[h]) "Implements").run Tryz.prog w = .ok (249, .agg #[h]) w := by kernel_rfl
theorem Tryz.methodAssignableTo (h : Value) (w : World) : (Go.method 357 179 (.agg #[h]) "AssignableTo").run Tryz.prog w = .ok (246, .agg #[h]) w := by kernel_rfl
theorem Tryz.elem27 (w : World) : (ReflectliteType.method ReflectliteType.elem #[.agg #[.pointer (some ⟨10, 95, none⟩)]]).run Tryz.prog w = .ok (.iface 179 (.agg #[.pointer (some ⟨10, 93, none⟩)])) w := by kernel_rfl
theorem Tryz.implements25 (w : World) : (ReflectliteType.relation "Implements" ReflectliteType.implements_ #[.agg #[.pointer (some ⟨10, 93, none⟩)], .iface 179 (.agg #[.pointer (some ⟨10, 62, none⟩)])]).run Tryz.prog w = .ok (.bool true) w := by kernel_rfl
theorem Tryz.typeOf25 (v : Value) (w : World) : (ReflectliteType.typeOf #[.iface 93 v]).run Tryz.prog w = .ok (.iface 179 (.agg #[.pointer (some ⟨10, 93, none⟩)])) w := by kernel_rfl
theorem Tryz.assignable25 (w : World) : (ReflectliteType.relation "AssignableTo" ReflectliteType.assignableTo #[.agg #[.pointer (some ⟨10, 93, none⟩)], .iface 179 (.agg #[.pointer (some ⟨10, 93, none⟩)])]).run Tryz.prog w = .ok (.bool true) w := by kernel_rfl
theorem Tryz.valueOf25 (e : Addr) (w : World) : (ReflectliteValue.unpack (.iface 93 (.pointer (some e)))).run Tryz.prog w
    = .ok (.agg #[.pointer (some ⟨10, 93, none⟩), .pointer (some ⟨w.heap.size, 0, none⟩), .int .u64 150]) (w.alloc (.cells #[.pointer (some e)] 93)) := by kernel_rfl

theorem Tryz.elemOf27 (w : World) : (Rtype.elem? 95).run Tryz.prog w = .ok (some 93) w := by kernel_rfl
theorem Tryz.mk25 (p : Addr) (w : World) : (ReflectliteValue.mk 93 p ReflectliteValue.flagAddr).run Tryz.prog w = .ok (.agg #[.pointer (some ⟨10, 93, none⟩), .pointer (some p), .int .u64 406]) w := by kernel_rfl
/-- (Value).Elem at the Value of a **p.E that is not nil: the Value of the *p.E variable that it points to, addressable. -/
theorem Tryz.elemV27 (a p : Addr) (W : World) (ha : W.cell? a = some (.pointer (some p))) :
    (ReflectliteValue.method (ReflectliteValue.valueError "reflectlite.Value.Elem" 0) ReflectliteValue.elem #[.agg #[.pointer (some ⟨10, 95, none⟩), .pointer (some a), .int .u64 150]]).run Tryz.prog W
      = .ok (.agg #[.pointer (some ⟨10, 93, none⟩), .pointer (some p), .int .u64 406]) W := by
  rw [rlm]
  simp only [Sem.run_bind, Tryz.parts27, Result.andThen]
  simp [ReflectliteValue.elem, loadVar, isAgg, underlying, Tryz.underlying95, ha, Result.andThen, Tryz.elemOf27, Tryz.mk25]
theorem rls (v x : Value) : ReflectliteValue.set #[v, x] = (do
    let (some (dst, a, fl), some (src, b, _)) := (← ReflectliteValue.parts v, ← ReflectliteValue.parts x)
      | unsupported (.noEntry "extern/(internal/reflectlite.Value).Set.zeroValue")
    if fl / ReflectliteValue.flagAddr % 2 == 0 then unsupported (.noEntry "extern/(internal/reflectlite.Value).Set.unaddressable")
    let val ← loadVar src b
    if ← Rtype.directlyAssignable dst src then storeVar dst a val
    else if ← Rtype.implements dst src then
      if (← Rtype.kind src) == 20 then
        match val with
        | .nilIface => unsupported (.noEntry "extern/reflectlite: a nil value of one interface type handed on as a value of another")
        | _ => storeVar dst a val
      else storeVar dst a (.iface src val)
    else panicString ("reflectlite.Set: value of type " ++ (← Rtype.spelt src) ++ " is not assignable to type " ++ (← Rtype.spelt dst))
    pure (.tuple #[])) := rfl
theorem Tryz.parts25a (a : Addr) (w : World) : (ReflectliteValue.parts (.agg #[.pointer (some ⟨10, 93, none⟩), .pointer (some a), .int .u64 406])).run Tryz.prog w = .ok (some (93, a, 406)) w := by kernel_rfl
theorem Tryz.parts25 (a : Addr) (w : World) : (ReflectliteValue.parts (.agg #[.pointer (some ⟨10, 93, none⟩), .pointer (some a), .int .u64 150])).run Tryz.prog w = .ok (some (93, a, 150)) w := by kernel_rfl
theorem Tryz.direct25 (w : World) : (Rtype.directlyAssignable 93 93).run Tryz.prog w = .ok true w := by kernel_rfl
theorem Tryz.size25 (w : World) : (sizeOf 93).run Tryz.prog w = .ok 1 w := by kernel_rfl
/-- (Value).Set: the *p.E variable at 'ta' gets what the Value's own variable 'b' holds. -/
theorem Tryz.set25 (ta b e : Addr) (old : Value) (W : World) (hb : W.cell? b = some (.pointer (some e))) (ht : W.cell? ta = some old) (hf : W.frozen? ta = false) :
    (ReflectliteValue.set #[.agg #[.pointer (some ⟨10, 93, none⟩), .pointer (some ta), .int .u64 406], .agg #[.pointer (some ⟨10, 93, none⟩), .pointer (some b), .int .u64 150]]).run Tryz.prog W
      = .ok (.tuple #[]) (W.setCell ta (.pointer (some e))) := by
  rw [rls]
  simp only [Sem.run_bind, Tryz.parts25a, Tryz.parts25, Result.andThen]
  simp [ReflectliteValue.flagAddr, loadVar, isAgg, underlying, Tryz.underlying93, hb, Result.andThen, Tryz.direct25, storeVar, Value.cells, storeCells, Addr.add]
  rw [run_store Tryz.prog W ta _ _ (by rfl)]
  simp [ht, hf]

set_option maxHeartbeats 4000000 in
theorem as_hit (e t : Addr) (old : Value) (w : World) (hg : w.cell? ⟨0, 0, none⟩ = some (.iface 179 (.agg #[.pointer (some ⟨10, 62, none⟩)]))) (ht0 : w.cell? t = some old) (hf0 : w.frozen? t = false) :
    Calls Tryz.prog 38 #[.iface 93 (.pointer (some e)), .iface 95 (.pointer (some t))] w fun ev w' => ev = .returned (.bool true) ∧ w' = ((((w.alloc (.cells #[.pointer (some t)] 95)).alloc (.cells #[.pointer (some ⟨10, 95, none⟩), .pointer (some ⟨w.heap.size, 0, none⟩), .int .u64 150] 120)).alloc (.cells #[.pointer (some ⟨10, 95, none⟩), .pointer (some ⟨w.heap.size, 0, none⟩), .int .u64 150] 120)).alloc (.cells #[.pointer (some e)] 93)).setCell t (.pointer (some e)) := by
  have h6 := @run_callFunc_extern Tryz.prog 63 _ (fun args => ReflectliteValue.unpack (args.getD 0 (.tuple #[]))) Tryz.func63 (by kernel_rfl) (by kernel_rfl) (by kernel_rfl) (by kernel_rfl)
  have h7 := @run_callFunc_extern Tryz.prog 64 _ (ReflectliteValue.methodAny (ReflectliteValue.valueError "reflectlite.Value.Type" 0) (fun t _ _ _ => ReflectliteType.toType t)) Tryz.func64 (by kernel_rfl) (by kernel_rfl) (by kernel_rfl) (by kernel_rfl)
  have h8 := @run_callFunc_extern Tryz.prog 65 _ (ReflectliteValue.method (ReflectliteValue.valueError "reflectlite.Value.IsNil" 0) ReflectliteValue.isNil) Tryz.func65 (by kernel_rfl) (by kernel_rfl) (by kernel_rfl) (by kernel_rfl)
  have h27 := @run_callFunc_extern Tryz.prog 236 _ (ReflectliteType.abiMethod fun t => do pure (.int .u8 (← Rtype.kind t))) Tryz.func236 (by kernel_rfl) (by kernel_rfl) (by kernel_rfl) (by kernel_rfl)
  have h37 := @run_callFunc_extern Tryz.prog 248 _ (ReflectliteType.method ReflectliteType.elem) Tryz.func248 (by kernel_rfl) (by kernel_rfl) (by kernel_rfl) (by kernel_rfl)
  have h38 := @run_callFunc_extern Tryz.prog 249 _ (ReflectliteType.relation "Implements" ReflectliteType.implements_) Tryz.func249 (by kernel_rfl) (by kernel_rfl) (by kernel_rfl) (by kernel_rfl)
  have h10 := @run_callFunc_extern Tryz.prog 105 _ ReflectliteType.typeOf Tryz.func105 (by kernel_rfl) (by kernel_rfl) (by kernel_rfl) (by kernel_rfl)
  have h35 := @run_callFunc_extern Tryz.prog 246 _ (ReflectliteType.relation "AssignableTo" ReflectliteType.assignableTo) Tryz.func246 (by kernel_rfl) (by kernel_rfl) (by kernel_rfl) (by kernel_rfl)
  have h11 := @run_callFunc_extern Tryz.prog 106 _ (ReflectliteValue.method (ReflectliteValue.valueError "reflectlite.Value.Elem" 0) ReflectliteValue.elem) Tryz.func106 (by kernel_rfl) (by kernel_rfl) (by kernel_rfl) (by kernel_rfl)
  have h12 := @run_callFunc_extern Tryz.prog 107 _ ReflectliteValue.set Tryz.func107 (by kernel_rfl) (by kernel_rfl) (by kernel_rfl) (by kernel_rfl)
  have tO := Tryz.typeOf25
  have mA := Tryz.methodAssignableTo
  have a25 := Tryz.assignable25
  have v25 := Tryz.valueOf25
  have f6 := Tryz.valueOf27
  have f7 := Tryz.type27
  have mK := Tryz.methodKind
  have mE := Tryz.methodElem
  have mI := Tryz.methodImplements
  have k27 := Tryz.kind27
  have k25 := Tryz.kind25
  have e27 := Tryz.elem27
  have i25 := Tryz.implements25
  have n8 := Tryz.isNil27 ⟨w.heap.size, 0, none⟩ t ((w.alloc (.cells #[.pointer (some t)] 95)).alloc (.cells #[.pointer (some ⟨10, 95, none⟩), .pointer (some ⟨w.heap.size, 0, none⟩), .int .u64 150] 120)) (by simp)
  have hlt : 0 < w.heap.size := by
    rcases Nat.eq_zero_or_pos w.heap.size with h0 | h
    · simp [World.cell?, h0] at hg
    · exact h
  have hg2 : ((w.alloc (.cells #[.pointer (some t)] 95)).alloc (.cells #[.pointer (some ⟨10, 95, none⟩), .pointer (some ⟨w.heap.size, 0, none⟩), .int .u64 150] 120)).cell? ⟨0, 0, none⟩ = some (.iface 179 (.agg #[.pointer (some ⟨10, 62, none⟩)])) := by
    rw [World.cell?_alloc_lt _ _ ⟨0, 0, none⟩ (by simp), World.cell?_alloc_lt _ _ ⟨0, 0, none⟩ hlt]; exact hg
  have htl : t.block < w.heap.size := by
    rcases Nat.lt_or_ge t.block w.heap.size with h | h
    · exact h
    · simp [World.cell?, Array.getElem?_eq_none h] at ht0
  have el := Tryz.elemV27 ⟨w.heap.size, 0, none⟩ t (((w.alloc (.cells #[.pointer (some t)] 95)).alloc (.cells #[.pointer (some ⟨10, 95, none⟩), .pointer (some ⟨w.heap.size, 0, none⟩), .int .u64 150] 120)).alloc (.cells #[.pointer (some ⟨10, 95, none⟩), .pointer (some ⟨w.heap.size, 0, none⟩), .int .u64 150] 120)) (by rw [World.cell?_alloc_lt _ _ ⟨w.heap.size, 0, none⟩ (by simp; omega)]; simp)
  have st := Tryz.set25 t ⟨w.heap.size + 1 + 1 + 1, 0, none⟩ e old ((((w.alloc (.cells #[.pointer (some t)] 95)).alloc (.cells #[.pointer (some ⟨10, 95, none⟩), .pointer (some ⟨w.heap.size, 0, none⟩), .int .u64 150] 120)).alloc (.cells #[.pointer (some ⟨10, 95, none⟩), .pointer (some ⟨w.heap.size, 0, none⟩), .int .u64 150] 120)).alloc (.cells #[.pointer (some e)] 93))
    (by rw [World.cell?_alloc_at _ _ _ _ (by simp)]; rfl)
    (by rw [World.cell?_alloc_lt _ _ t (by simp; omega), World.cell?_alloc_lt _ _ t (by simp; omega), World.cell?_alloc_lt _ _ t (by simp; omega), World.cell?_alloc_lt _ _ t htl]; exact ht0)
    (by rw [World.frozen?_alloc_old _ _ t (by simp; omega), World.frozen?_alloc_old _ _ t (by simp; omega), World.frozen?_alloc_old _ _ t (by simp; omega), World.frozen?_alloc_old _ _ t (Nat.ne_of_lt htl)]; exact hf0)
  go_enter Tryz.func38, Tryz.ntmps38
  go_wp2
  refine wp_loop_rounds 1 ?_
  rw [rounds_succ]
  go_wp2
  go_ret
  exact ⟨rfl, rfl⟩
end
section
open Go.RowKit
set_option synthInstance.maxHeartbeats 2000000 in
set_option synthInstance.maxSize 100000 in
set_option maxRecDepth 100000 in
set_option maxHeartbeats 16000000 in
theorem hFaulty {w : World} {e : Nat} {c p : Int} [he : BkC w e [.int .i64 c, .int .i64 p] 58] (hg : w.cell? ⟨0, 0, none⟩ = some (.iface 179 (.agg #[.pointer (some ⟨10, 62, none⟩)]))) (hc : (c != 0) = true) : Calls Tryz.prog 13 #[.iface 93 (.pointer (some ⟨e, 0, none⟩))] w fun ev w' => ev = .returned (.tuple #[.agg #[.int .i64 c, .int .i64 p], .bool true]) ∧ Kp0 w w' := by
  haveI : Has w 0 := ⟨World.block_lt_of_cell? _ _ hg⟩
  have HG := hid hg
  have c0 := he.out.cell (i := 0) rfl
  have c1 := he.out.cell (i := 1) rfl
  clear hg
  go_enter Tryz.func13, Tryz.ntmps13
  go_wp2_with (go_at_call 38; (with_reducible refine Calls.mono (as_hit ⟨e, 0, none⟩ ⟨w.heap.size + 1, 0, none⟩ (.pointer none) _ (by simp only [go_sem]; exact HG.out) ((inferInstance : BkC _ (w.heap.size + 1) _ 93).out.cell rfl) ((inferInstance : BkC _ (w.heap.size + 1) _ 93).out.free 0)) ?_); rintro ev wa ⟨rfl, rfl⟩)
  go_region
  all_goals
    go_wp2_with fail
    refine ret_cell_tmp rfl rfl rfl (by rfl) (by rfl) (by rfl) ?_
    exact ⟨rfl, ⟨Gr.out⟩⟩
end
section
open Go.RowKit
open Go.Maps Go.ChangeMaps
/-- A house's map, by its names alone. -/
structure Mk (w : World) (m n : Nat) (D : DataW Unit) (K : List UInt8 → Bool) : Prop where
  own : w.ownsMap Tryz.prog 9 Rp m n D
  has : ∀ k, Maps.has D (.string k) = K k
theorem Mp.mk' {w : World} {m n : Nat} {D : DataW Unit} {F : List UInt8 → Option (Nat × Nat)} (h : Mp w m n D F) : Mk w m n D (fun q => (F q).isSome) := ⟨h.own, h.has⟩
theorem Mk.heap {w : World} {m n : Nat} {D : DataW Unit} {K : List UInt8 → Bool} (h : Mk w m n D K) : ∃ es c, w.heap[m]? = some (.map es c) := by
  obtain ⟨es, c, h, -⟩ := h.own
  exact ⟨es, c, h⟩
theorem Mk.keep {w w' : World} {m n : Nat} {D : DataW Unit} {K : List UInt8 → Bool} {S : List Nat} (h : Mk w m n D K) (k : Keeps w.heap.size S w w') (hm : m ∉ S) : Mk w' m n D K := by
  obtain ⟨es, c, h1, h2⟩ := h.own
  exact ⟨⟨es, c, (k.block m (lt_of_block h1) hm).trans h1, h2⟩, h.has⟩
theorem Mk.below {w w' : World} {m n : Nat} {D : DataW Unit} {K : List UInt8 → Bool} (h : Mk w m n D K) (k : Below w.heap.size w w') : Mk w' m n D K := h.keep (S := []) (Keeps.of_below k) (by simp)
theorem Mk.lock {w : World} {m n : Nat} {D : DataW Unit} {K : List UInt8 → Bool} {a : Nat} {L : List Value} {T : Nat} (h : Mk w m n D K) (hh : Bk w a L T) (i : Nat) (v : Value) : Mk (w.setCell ⟨a, i, none⟩ v) m n D K := by
  obtain ⟨es, c, hm⟩ := h.heap
  refine h.keep (S := [a]) ((Keeps.refl _ _ _).set (Or.inl (List.mem_singleton.2 rfl)) i v) (fun e => ?_)
  rw [List.mem_singleton] at e
  subst e
  rw [hh] at hm
  cases hm
theorem Mk.put {w w1 : World} {m n : Nat} {D : DataW Unit} {K : List UInt8 → Bool} (h : Mk w m n D K) {k : List UInt8} {b : Nat}
    (ho : w1.ownsMap Tryz.prog 9 Rp m (n + 1) (D.put (.string k) (.lit (.int .i64 b)))) : Mk w1 m (n + 1) (D.put (.string k) (.lit (.int .i64 b))) (fun q => if q = k then true else K q) := by
  have hI := h.own.isMap
  refine ⟨ho, fun q => ?_⟩
  by_cases e : q = k
  · subst e
    rw [has_put_same hI (by first | trivial | exact ⟨_, rfl⟩ | simp [WideAt.IsKeyLit])]
    simp
  · rw [has_put_other (by simpa using e), h.has, if_neg e]
set_option synthInstance.maxHeartbeats 2000000 in
set_option synthInstance.maxSize 100000 in
set_option maxRecDepth 100000 in
set_option maxHeartbeats 16000000 in
theorem hCloneN {w : World} : Calls Tryz.prog 47 #[.slice none 0 0] w fun e w' => e = .returned (.slice none 0 0) ∧ w' = w := by
  have q : ∀ W : World, (binOp .eql 27 (.slice none 0 0) (.slice none 0 0)).run Tryz.prog W = .ok (.bool true) W := fun W => by kernel_rfl
  go_enter Tryz.func47, Tryz.ntmps47
  go_wp2_with fail
  go_ret
  exact ⟨rfl, rfl⟩
set_option synthInstance.maxHeartbeats 2000000 in
set_option synthInstance.maxSize 100000 in
set_option maxRecDepth 100000 in
set_option maxHeartbeats 16000000 in
theorem hTwinN {w : World} : Calls Tryz.prog 21 #[.agg #[.slice none 0 0]] w fun e w' => e = .returned (.agg #[.slice none 0 0]) ∧ Kp0 w w' := by
  go_enter Tryz.func21, Tryz.ntmps21
  go_wp2_with (go_at_call 47; (with_reducible refine Calls.mono hCloneN ?_); rintro e wc ⟨rfl, hw⟩; obtain rfl := hw.symm)
  refine ret_cell rfl rfl rfl (by rfl) (by rfl) (by rfl) ?_
  exact ⟨rfl, ⟨Gr.out⟩⟩
set_option synthInstance.maxHeartbeats 2000000 in
set_option synthInstance.maxSize 100000 in
set_option maxRecDepth 100000 in
set_option maxHeartbeats 16000000 in
theorem hCheckN {w : World} : Calls Tryz.prog 22 #[.agg #[.slice none 0 0]] w fun e w' => e = .returned (.int .i64 0) ∧ Kp0 w w' := by
  go_enter Tryz.func22, Tryz.ntmps22
  go_wp2_with fail
  go_loopw [13] (fun s13 wx => s13 = .int .i64 0 ∧ Kp0 w wx) (fun _ _ => 0)
  case atStart => exact ⟨rfl, ⟨Gr.out⟩⟩
  case round =>
    obtain ⟨rfl, ik⟩ := hrel
    go_wp2_with fail
    go_ret
    exact ⟨rfl, ⟨Gr.out⟩⟩
set_option synthInstance.maxHeartbeats 2000000 in
set_option synthInstance.maxSize 100000 in
set_option maxRecDepth 100000 in
set_option maxHeartbeats 16000000 in
theorem hPut1N {w : World} {p : Nat} [hp : BkC w p [.slice none 0 0] 29] : Calls Tryz.prog 20 #[.slice none 0 0, .pointer (some ⟨p, 0, none⟩)] w fun e w' => e = .returned (.tuple #[.agg #[.slice none 0 0], .int .i64 0]) ∧ Kp0 w w' := by
  have c0 := hp.out.cell (i := 0) rfl
  go_enter Tryz.func20, Tryz.ntmps20
  go_wp2_with fail
  go_region_with (first | (go_at_call 21; (with_reducible refine Calls.mono (hTwinN) ?_); rintro e wc ⟨rfl, _⟩) | (go_at_call 22; (with_reducible refine Calls.mono (hCheckN) ?_); rintro e wc ⟨rfl, _⟩))
  all_goals
    go_wp2_with fail
    refine ret_cell_tmp rfl rfl rfl (by rfl) (by rfl) (by rfl) ?_
    exact ⟨rfl, ⟨Gr.out⟩⟩
end
end Go.Proofs.YtmjpfoninpbgiaaGreatDoor
