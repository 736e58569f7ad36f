/- Saves of flows written, of the given program. Places and finite parts. The sum of one. What kind of element. Nothing less nothing. A stream has no middle. A stream's speed. A stream's potential at nought. An element's value. -/
import Derived.Test.YtmjpfoninpbgiaaGreatDoorD06
import Derived.Deep.RegionHeld3
set_option linter.unusedSimpArgs false
set_option linter.unusedVariables false
namespace Go.Proofs.YtmjpfoninpbgiaaGreatDoor
section
open Go.RowKit


theorem firstBad_zero : ∀ (l : List Int), firstBad l = 0 → ∀ c ∈ l, c = 0
  | [], _, c, hc => by cases hc
  | d :: r, h, c, hc => by
    rw [firstBad] at h
    by_cases hd : d = 0
    · rw [if_pos hd] at h
      rcases List.mem_cons.1 hc with rfl | hc
      · exact hd
      · exact firstBad_zero r h c hc
    · rw [if_neg hd] at h
      exact absurd h hd
theorem flChk_kind (l : List El) (h : flowChk l = 0) : ∀ x ∈ l, x.1 ≤ 4 := by
  unfold flowChk at h
  by_cases hl : 256 < l.length
  · rw [if_pos hl] at h; cases h
  · rw [if_neg hl] at h
    intro x hx
    have := firstBad_zero _ h (elChkS x) (List.mem_map.2 ⟨x, hx, rfl⟩)
    unfold elChkS elChk at this
    by_cases hk : x.1 < 1 ∨ 4 < x.1
    · rw [if_pos hk] at this; cases this
    · omega
set_option maxRecDepth 100000 in
theorem whole_small (n : Nat) (hn : n < 100) (w : World) :
    Calls Tryz.prog 58 #[.int .u8 n] w fun e w' => e = .returned (.string ⟨(decW n).toArray⟩) ∧ w' = w := by
  have hi := Tryz.strconv_Itoa_small n hn
  rw [← decW_eq] at hi
  go_enter Tryz.func58, Tryz.ntmps58
  go_wp2_with fail
  refine (hi _).mono ?_
  rintro e w1 ⟨rfl, rfl⟩
  go_wp2_with fail
  go_ret
  exact ⟨rfl, rfl⟩
theorem flChk_len (l : List El) (h : flowChk l = 0) : l.length ≤ 256 := by
  unfold flowChk at h
  by_cases hl : 256 < l.length
  · rw [if_pos hl] at h; cases h
  · omega
set_option maxRecDepth 100000 in
set_option maxHeartbeats 16000000 in
theorem flow_w (l : List El) (hf : ∀ x ∈ l, x.1 < 256 ∧ fits x.2.1.1 ∧ fits x.2.1.2 ∧ fits x.2.2.1.1 ∧ fits x.2.2.1.2 ∧ fits x.2.2.2) (hn : l.length ≤ 70000) (a : Option Addr) (cap : Nat) (w : World) (V : Vars w) (h40 : 10 ≤ w.heap.size) (hcells : 0 < l.length → ∃ g, a = some ⟨g, 0, none⟩ ∧ ∀ i, i < (l.flatMap elCells).length → w.cell? ⟨g, i, none⟩ = (l.flatMap elCells)[i]?) :
    Calls Tryz.prog 32 #[.agg #[.slice a l.length cap]] w fun e w' => e = .returned (.tuple #[.string ⟨(flowO l).1.toArray⟩, .int .i64 (flowO l).2]) ∧ Below w.heap.size w w' := by
  have hck := fun w1 (h : Below w.heap.size w w1) => flow_check l (fun x hx => (hf x hx).2.2.2.2.2) a cap w1 (cells_below hcells h) hn
  have V' := hid V
  have HC := hid hcells
  have HCK := hid hck
  clear V hcells hck
  obtain ⟨Q, hQ⟩ : ∃ Q, Q = flowO l := ⟨_, rfl⟩
  rw [← hQ]
  unfold flowO at hQ
  obtain ⟨ti, hti, htz, hts, htb⟩ := info_parts Tryz.info9
  by_cases hz : flowChk l = 0
  case neg =>
    rw [if_neg hz] at hQ
    have hz' : (flowChk l != 0) = true := by simpa using hz
    have HQ := hid hQ
    clear hQ
    go_enter Tryz.func32, Tryz.ntmps32
    go_wp2_with fail
    refine (HCK.out _ (Below.alloc (Below.refl _ _) (Nat.le_refl _) _)).mono ?_
    rintro e w0 ⟨rfl, hb0⟩
    have HB0 := hid hb0
    clear hb0
    go_wp2_with fail
    go_ret2
    exact ⟨by rw [HQ.out]; rfl, (Below.alloc (Below.refl _ _) (Nat.le_refl _) _).trans (HB0.out.mono (by simp))⟩
  case pos =>
    rw [if_pos hz] at hQ
    have hlen : l.length ≤ 256 := flChk_len l hz
    have hkind := flChk_kind l hz
    rw [hz] at HCK
    have HQ := hid hQ
    clear hQ hz
    go_enter Tryz.func32, Tryz.ntmps32
    go_wp2_with fail
    refine (HCK.out _ (Below.alloc (Below.refl _ _) (Nat.le_refl _) _)).mono ?_
    rintro e w0 ⟨rfl, hb0⟩
    have q0 : w0.cell? ⟨w.heap.size, 0, none⟩ = some (.slice a l.length cap) := ((Keeps.of_below (S := []) hb0).cell (q := ⟨w.heap.size, 0, none⟩) (by simp) (by simp)).trans (by simp [go_sem])
    have HB0 : Hid (Below w.heap.size w w0) := hid ((Below.alloc (Below.refl _ _) (Nat.le_refl _) _).trans (hb0.mono (by simp)))
    clear hb0
    go_wp2_with fail
    go_loopw [5, 16] (fun t5 t15 wr => ∃ (k : Nat) (a' : Option Addr) (cap' : Nat), t15 = .int .i64 k ∧ t5 = .slice a' k cap' ∧ k ≤ l.length ∧ Hid (wr.ownsRow w.heap.size 9 1 (.slice a' k cap') k ((l.take k).map fun x => sV (elLine x))) ∧ Below w.heap.size w wr) (fun _ t15 _ => l.length - (intOf t15).toNat)
    case atStart => exact ⟨0, none, 0, rfl, rfl, Nat.zero_le _, hid (own_nil _ _ _ _), HB0.out⟩
    case round =>
      obtain ⟨k, a', cap', rfl, rfl, hk, OWR, hb⟩ := hrel
      have hsz := hb.size
      by_cases hkn : k < l.length
      · obtain ⟨g, rfl, hce⟩ := HC.out (by omega)
        have hx : l[k]? = some l[k] := List.getElem?_eq_getElem hkn
        have hfx := hf l[k] (List.getElem_mem hkn)
        have htk : (l.take (k + 1)).map (fun x => sV (elLine x)) = (l.take k).map (fun x => sV (elLine x)) ++ [sV (elLine l[k])] := by
          rw [List.take_succ_eq_append_getElem hkn, List.map_append]; rfl
        obtain ⟨x, hxx⟩ : ∃ x, x = l[k] := ⟨_, rfl⟩
        rw [← hxx] at hx hfx htk
        have hlenx : (l.flatMap elCells).length = 4 * l.length := el_len l
        have hcw : ∀ j, j < 4 → wr.cell? ⟨g, k * 4 + j, none⟩ = (elCells x)[j]? := fun j hj => by
          have h1 := hce (k * 4 + j) (by rw [hlenx]; omega)
          rw [flat_at elCells 4 (fun _ => rfl) l k j x hx hj] at h1
          rw [← h1]
          exact (Keeps.of_below (S := []) hb).cell (q := ⟨g, k * 4 + j, none⟩) (World.block_lt_of_cell? _ _ (h1.trans (List.getElem?_eq_getElem (by exact hj)))) (by simp)
        have c0 : wr.cell? ⟨g, k * 4, none⟩ = some (.int .u8 x.1) := hcw 0 (by omega)
        have c1 : wr.cell? ⟨g, k * 4 + 1, none⟩ = some (.complex .f64 x.2.1.1 x.2.1.2) := hcw 1 (by omega)
        have c2 : wr.cell? ⟨g, k * 4 + 2, none⟩ = some (.complex .f64 x.2.2.1.1 x.2.2.1.2) := hcw 2 (by omega)
        have c3 : wr.cell? ⟨g, k * 4 + 3, none⟩ = some (.float .f64 x.2.2.2) := hcw 3 (by omega)
        have hglt := World.block_lt_of_cell? _ _ c0
        haveI : Has wr g := ⟨hglt⟩
        have HTK := hid htk
        have HB := hid hb
        have hF3 : Hid (∀ W gg, Below w.heap.size w W → W.heap[gg]? = some (.cells #[.float .f64 x.2.1.1, .float .f64 x.2.1.2, .float .f64 x.2.2.1.1, .float .f64 x.2.2.1.2, .float .f64 x.2.2.2] 32 (0, 0)) → Calls Tryz.prog 59 #[.slice (some ⟨gg, 0, none⟩) 5 5] W fun e w' => e = .returned (.string ⟨(floatsW [x.2.1.1, x.2.1.2, x.2.2.1.1, x.2.2.1.2, x.2.2.2]).toArray⟩) ∧ Below W.heap.size W w') := hid (fun W gg hW hg =>
          floats_w [x.2.1.1, x.2.1.2, x.2.2.1.1, x.2.2.1.2, x.2.2.2] (by intro y hy; simp at hy; rcases hy with rfl | rfl | rfl | rfl | rfl; exact hfx.2.1; exact hfx.2.2.1; exact hfx.2.2.2.1; exact hfx.2.2.2.2.1; exact hfx.2.2.2.2.2) (by simp) (by simp) gg 5 W (V'.out.keep (Keeps.of_below (S := []) hW) h40 (by simp)) (by have := hW.size; omega) (by
            intro j hj
            rw [cell_of_block hg]
            rcases (show j = 0 ∨ j = 1 ∨ j = 2 ∨ j = 3 ∨ j = 4 by simp at hj; omega) with rfl | rfl | rfl | rfl | rfl <;> rfl))
        have hk4 := hkind l[k] (List.getElem_mem hkn)
        have hD3 : Hid (∀ W, Calls Tryz.prog 58 #[.int .u8 x.1] W fun e w' => e = .returned (.string ⟨(decW x.1).toArray⟩) ∧ w' = W) := hid (fun W => whole_small _ (by rw [hxx]; omega) W)
        obtain ⟨F, hF⟩ : ∃ F : ByteArray, F = ⟨(floatsW [x.2.1.1, x.2.1.2, x.2.2.1.1, x.2.2.1.2, x.2.2.2]).toArray⟩ := ⟨_, rfl⟩
        obtain ⟨D, hD⟩ : ∃ D : ByteArray, D = ⟨(decW x.1).toArray⟩ := ⟨_, rfl⟩
        have hFl : F.data.toList = floatsW [x.2.1.1, x.2.1.2, x.2.2.1.1, x.2.2.1.2, x.2.2.2] := by rw [hF]
        have hDl : D.data.toList = decW x.1 := by rw [hD]
        have hFs : F.size ≤ 85 := by rw [← size_list, hFl]; exact floatsW_len _
        have hDs : D.size ≤ 4 := by rw [← size_list, hDl]; exact decW_len 3 _ (by have := hfx.1; omega)
        rw [← hF] at hF3
        rw [← hD] at hD3
        have HF := hid hFl
        have HD := hid hDl
        have k1 : (9223372036854775807 < 8 + D.size) = False := by simp; omega
        have k2 : (9223372036854775807 < 8 + D.size + 1) = False := by simp; omega
        have k3 : (9223372036854775807 < 8 + D.size + 1 + F.size) = False := by simp; omega
        have k4 : (9223372036854775807 < 8 + D.size + 1 + F.size + 1) = False := by simp; omega
        have nvX : some wr.heap.size ≠ (Value.slice a' k cap').ownBlock := fun e => Nat.lt_irrefl _ (own_lt OWR.out _ e.symm)
        clear hcw hce hk4 hxx hx htk hb hFl hDl hF hD hFs hDs hfx V' HC HQ HCK q0 HB0
        go_wp2_with fail
        refine wp_region_held_drew (S := (fun W => W.cell? ⟨wr.heap.size, 0, none⟩ = some (Value.int .u8 x.1) ∧ W.cell? ⟨wr.heap.size, 1, none⟩ = some (Value.complex .f64 x.2.1.1 x.2.1.2) ∧ W.cell? ⟨wr.heap.size, 2, none⟩ = some (Value.complex .f64 x.2.2.1.1 x.2.2.1.2) ∧ W.cell? ⟨wr.heap.size, 3, none⟩ = some (Value.float .f64 x.2.2.2))) (by kernel_rfl) ?_ (fun hHeld => ?_)
        · (refine ⟨?_, ?_, ?_, ?_⟩ <;> (first | (simp [go_sem]; done) | assumption))
        refine wpAnyH_take (i := 0) (oi := { dst := some 20, op := Op.move (Operand.tmp 5), type := 39, pos := "save.go:67", after := #[], guard := none }) (v := ?_) rfl (by kernel_rfl) (by kernel_rfl) (by kernel_rfl) (fun _ _ _ h => h) (Or.inl ⟨by rfl, ?_⟩) (by assumption) ?_
        rotate_left
        · intro w hSw
          (try dsimp only at hSw)
          go_simp
          all_goals (with_reducible rfl)
        try simp only [Act.put, List.setIfInBounds_toArray, List.set_cons_zero, List.set_cons_succ]
        refine wpAnyH_take (i := 1) (oi := { dst := some 21, op := Op.fieldAddr 38 (Operand.tmp 7) 0, type := 0, pos := "save.go:67", after := #[], guard := none }) (v := ?_) rfl (by kernel_rfl) (by kernel_rfl) (by kernel_rfl) (fun _ _ _ h => h) (Or.inl ⟨by rfl, ?_⟩) (by assumption) ?_
        rotate_left
        · intro w hSw
          (try dsimp only at hSw)
          go_simp
          all_goals (with_reducible rfl)
        try simp only [Act.put, List.setIfInBounds_toArray, List.set_cons_zero, List.set_cons_succ]
        refine wpAnyH_take (i := 2) (oi := { dst := some 22, op := Op.load 5 (Operand.tmp 21), type := 5, pos := "save.go:67", after := #[{ on := 1, ground := Ground.data }], guard := none }) (v := ?_) rfl (by kernel_rfl) (by kernel_rfl) (by kernel_rfl) (fun _ _ _ h => h) (Or.inl ⟨by rfl, ?_⟩) (by assumption) ?_
        rotate_left
        · intro w hSw
          (try dsimp only at hSw)
          go_simp
          all_goals (with_reducible rfl)
        try simp only [Act.put, List.setIfInBounds_toArray, List.set_cons_zero, List.set_cons_succ]
        refine wpAnyH_take (i := 6) (oi := { dst := some 26, op := Op.fieldAddr 38 (Operand.tmp 7) 1, type := 0, pos := "save.go:67", after := #[], guard := none }) (v := ?_) rfl (by kernel_rfl) (by kernel_rfl) (by kernel_rfl) (fun _ _ _ h => h) (Or.inl ⟨by rfl, ?_⟩) (by assumption) ?_
        rotate_left
        · intro w hSw
          (try dsimp only at hSw)
          go_simp
          all_goals (with_reducible rfl)
        try simp only [Act.put, List.setIfInBounds_toArray, List.set_cons_zero, List.set_cons_succ]
        refine wpAnyH_take (i := 7) (oi := { dst := some 27, op := Op.load 31 (Operand.tmp 26), type := 31, pos := "save.go:67", after := #[{ on := 6, ground := Ground.data }], guard := none }) (v := ?_) rfl (by kernel_rfl) (by kernel_rfl) (by kernel_rfl) (fun _ _ _ h => h) (Or.inl ⟨by rfl, ?_⟩) (by assumption) ?_
        rotate_left
        · intro w hSw
          (try dsimp only at hSw)
          go_simp
          all_goals (with_reducible rfl)
        try simp only [Act.put, List.setIfInBounds_toArray, List.set_cons_zero, List.set_cons_succ]
        refine wpAnyH_take (i := 8) (oi := { dst := some 28, op := Op.call { callee := Callee.builtin Builtin.real, args := #[Operand.tmp 27], argTypes := #[31] }, type := 32, pos := "save.go:67", after := #[{ on := 7, ground := Ground.data }], guard := none }) (v := ?_) rfl (by kernel_rfl) (by kernel_rfl) (by kernel_rfl) (fun _ _ _ h => h) (Or.inl ⟨by rfl, ?_⟩) (by assumption) ?_
        rotate_left
        · intro w hSw
          (try dsimp only at hSw)
          go_simp
          all_goals (with_reducible rfl)
        try simp only [Act.put, List.setIfInBounds_toArray, List.set_cons_zero, List.set_cons_succ]
        refine wpAnyH_take (i := 9) (oi := { dst := some 29, op := Op.fieldAddr 38 (Operand.tmp 7) 1, type := 0, pos := "save.go:67", after := #[], guard := none }) (v := ?_) rfl (by kernel_rfl) (by kernel_rfl) (by kernel_rfl) (fun _ _ _ h => h) (Or.inl ⟨by rfl, ?_⟩) (by assumption) ?_
        rotate_left
        · intro w hSw
          (try dsimp only at hSw)
          go_simp
          all_goals (with_reducible rfl)
        try simp only [Act.put, List.setIfInBounds_toArray, List.set_cons_zero, List.set_cons_succ]
        refine wpAnyH_take (i := 10) (oi := { dst := some 30, op := Op.load 31 (Operand.tmp 29), type := 31, pos := "save.go:67", after := #[{ on := 9, ground := Ground.data }], guard := none }) (v := ?_) rfl (by kernel_rfl) (by kernel_rfl) (by kernel_rfl) (fun _ _ _ h => h) (Or.inl ⟨by rfl, ?_⟩) (by assumption) ?_
        rotate_left
        · intro w hSw
          (try dsimp only at hSw)
          go_simp
          all_goals (with_reducible rfl)
        try simp only [Act.put, List.setIfInBounds_toArray, List.set_cons_zero, List.set_cons_succ]
        refine wpAnyH_take (i := 11) (oi := { dst := some 31, op := Op.call { callee := Callee.builtin Builtin.imag, args := #[Operand.tmp 30], argTypes := #[31] }, type := 32, pos := "save.go:67", after := #[{ on := 10, ground := Ground.data }], guard := none }) (v := ?_) rfl (by kernel_rfl) (by kernel_rfl) (by kernel_rfl) (fun _ _ _ h => h) (Or.inl ⟨by rfl, ?_⟩) (by assumption) ?_
        rotate_left
        · intro w hSw
          (try dsimp only at hSw)
          go_simp
          all_goals (with_reducible rfl)
        try simp only [Act.put, List.setIfInBounds_toArray, List.set_cons_zero, List.set_cons_succ]
        refine wpAnyH_take (i := 12) (oi := { dst := some 32, op := Op.fieldAddr 38 (Operand.tmp 7) 2, type := 0, pos := "save.go:67", after := #[], guard := none }) (v := ?_) rfl (by kernel_rfl) (by kernel_rfl) (by kernel_rfl) (fun _ _ _ h => h) (Or.inl ⟨by rfl, ?_⟩) (by assumption) ?_
        rotate_left
        · intro w hSw
          (try dsimp only at hSw)
          go_simp
          all_goals (with_reducible rfl)
        try simp only [Act.put, List.setIfInBounds_toArray, List.set_cons_zero, List.set_cons_succ]
        refine wpAnyH_take (i := 13) (oi := { dst := some 33, op := Op.load 31 (Operand.tmp 32), type := 31, pos := "save.go:67", after := #[{ on := 12, ground := Ground.data }], guard := none }) (v := ?_) rfl (by kernel_rfl) (by kernel_rfl) (by kernel_rfl) (fun _ _ _ h => h) (Or.inl ⟨by rfl, ?_⟩) (by assumption) ?_
        rotate_left
        · intro w hSw
          (try dsimp only at hSw)
          go_simp
          all_goals (with_reducible rfl)
        try simp only [Act.put, List.setIfInBounds_toArray, List.set_cons_zero, List.set_cons_succ]
        refine wpAnyH_take (i := 14) (oi := { dst := some 34, op := Op.call { callee := Callee.builtin Builtin.real, args := #[Operand.tmp 33], argTypes := #[31] }, type := 32, pos := "save.go:67", after := #[{ on := 13, ground := Ground.data }], guard := none }) (v := ?_) rfl (by kernel_rfl) (by kernel_rfl) (by kernel_rfl) (fun _ _ _ h => h) (Or.inl ⟨by rfl, ?_⟩) (by assumption) ?_
        rotate_left
        · intro w hSw
          (try dsimp only at hSw)
          go_simp
          all_goals (with_reducible rfl)
        try simp only [Act.put, List.setIfInBounds_toArray, List.set_cons_zero, List.set_cons_succ]
        refine wpAnyH_take (i := 15) (oi := { dst := some 35, op := Op.fieldAddr 38 (Operand.tmp 7) 2, type := 0, pos := "save.go:67", after := #[], guard := none }) (v := ?_) rfl (by kernel_rfl) (by kernel_rfl) (by kernel_rfl) (fun _ _ _ h => h) (Or.inl ⟨by rfl, ?_⟩) (by assumption) ?_
        rotate_left
        · intro w hSw
          (try dsimp only at hSw)
          go_simp
          all_goals (with_reducible rfl)
        try simp only [Act.put, List.setIfInBounds_toArray, List.set_cons_zero, List.set_cons_succ]
        refine wpAnyH_take (i := 16) (oi := { dst := some 36, op := Op.load 31 (Operand.tmp 35), type := 31, pos := "save.go:67", after := #[{ on := 15, ground := Ground.data }], guard := none }) (v := ?_) rfl (by kernel_rfl) (by kernel_rfl) (by kernel_rfl) (fun _ _ _ h => h) (Or.inl ⟨by rfl, ?_⟩) (by assumption) ?_
        rotate_left
        · intro w hSw
          (try dsimp only at hSw)
          go_simp
          all_goals (with_reducible rfl)
        try simp only [Act.put, List.setIfInBounds_toArray, List.set_cons_zero, List.set_cons_succ]
        refine wpAnyH_take (i := 17) (oi := { dst := some 37, op := Op.call { callee := Callee.builtin Builtin.imag, args := #[Operand.tmp 36], argTypes := #[31] }, type := 32, pos := "save.go:67", after := #[{ on := 16, ground := Ground.data }], guard := none }) (v := ?_) rfl (by kernel_rfl) (by kernel_rfl) (by kernel_rfl) (fun _ _ _ h => h) (Or.inl ⟨by rfl, ?_⟩) (by assumption) ?_
        rotate_left
        · intro w hSw
          (try dsimp only at hSw)
          go_simp
          all_goals (with_reducible rfl)
        try simp only [Act.put, List.setIfInBounds_toArray, List.set_cons_zero, List.set_cons_succ]
        refine wpAnyH_take (i := 18) (oi := { dst := some 38, op := Op.fieldAddr 38 (Operand.tmp 7) 3, type := 0, pos := "save.go:67", after := #[], guard := none }) (v := ?_) rfl (by kernel_rfl) (by kernel_rfl) (by kernel_rfl) (fun _ _ _ h => h) (Or.inl ⟨by rfl, ?_⟩) (by assumption) ?_
        rotate_left
        · intro w hSw
          (try dsimp only at hSw)
          go_simp
          all_goals (with_reducible rfl)
        try simp only [Act.put, List.setIfInBounds_toArray, List.set_cons_zero, List.set_cons_succ]
        refine wpAnyH_take (i := 19) (oi := { dst := some 39, op := Op.load 32 (Operand.tmp 38), type := 32, pos := "save.go:67", after := #[{ on := 18, ground := Ground.data }], guard := none }) (v := ?_) rfl (by kernel_rfl) (by kernel_rfl) (by kernel_rfl) (fun _ _ _ h => h) (Or.inl ⟨by rfl, ?_⟩) (by assumption) ?_
        rotate_left
        · intro w hSw
          (try dsimp only at hSw)
          go_simp
          all_goals (with_reducible rfl)
        try simp only [Act.put, List.setIfInBounds_toArray, List.set_cons_zero, List.set_cons_succ]
        refine wpAnyH_ready (rs := [3, 20]) (by kernel_rfl) (by simp) ?_
        refine AllReadyH.cons (o := { dst := some 23, op := Op.call { callee := Callee.value (Operand.func 58), args := #[Operand.tmp 22], argTypes := #[5] }, type := 9, pos := "save.go:67", after := #[{ on := 2, ground := Ground.data }], guard := none }) rfl (fun K hK => ?_) ?_
        · go_simp
          (go_at_call 58; refine (hD3.out _).mono ?_; rintro e wq ⟨rfl, rfl⟩)
          refine hK.out _ _ ?_ (fun hHeld => ?_)
          · (refine ⟨?_, ?_, ?_, ?_⟩ <;> (first | (simp [go_sem]; done) | assumption))
          clear hK K
          try simp only [Act.put, List.setIfInBounds_toArray, List.set_cons_zero, List.set_cons_succ]
          refine wpAnyH_take (i := 4) (oi := { dst := some 24, op := Op.binOp BinOp.add 9 (Operand.const (Value.string { data := #[101, 108, 101, 109, 101, 110, 116, 32] })) (Operand.tmp 23) 9, type := 9, pos := "save.go:67", after := #[{ on := 3, ground := Ground.data }], guard := none }) (v := ?_) rfl (by kernel_rfl) (by kernel_rfl) (by kernel_rfl) (fun _ _ _ h => h) (Or.inl ⟨by rfl, ?_⟩) (by assumption) ?_
          rotate_left
          · intro w hSw
            (try dsimp only at hSw)
            go_simp
            all_goals (with_reducible rfl)
          try simp only [Act.put, List.setIfInBounds_toArray, List.set_cons_zero, List.set_cons_succ]
          refine wpAnyH_take (i := 5) (oi := { dst := some 25, op := Op.binOp BinOp.add 9 (Operand.tmp 24) (Operand.const (Value.string { data := #[32] })) 9, type := 9, pos := "save.go:67", after := #[{ on := 4, ground := Ground.data }], guard := none }) (v := ?_) rfl (by kernel_rfl) (by kernel_rfl) (by kernel_rfl) (fun _ _ _ h => h) (Or.inl ⟨by rfl, ?_⟩) (by assumption) ?_
          rotate_left
          · intro w hSw
            (try dsimp only at hSw)
            go_simp
            all_goals (with_reducible rfl)
          try simp only [Act.put, List.setIfInBounds_toArray, List.set_cons_zero, List.set_cons_succ]
          refine wpAnyH_ready (rs := [20]) (by kernel_rfl) (by simp) ?_
          refine AllReadyH.cons (o := { dst := some 40, op := Op.buildSlice 169 5 #[(0, Operand.tmp 28), (1, Operand.tmp 31), (2, Operand.tmp 34), (3, Operand.tmp 37), (4, Operand.tmp 39)], type := 169, pos := "save.go:67", after := #[{ on := 8, ground := Ground.data }, { on := 11, ground := Ground.data }, { on := 14, ground := Ground.data }, { on := 17, ground := Ground.data }, { on := 19, ground := Ground.data }], guard := none }) rfl (fun K hK => ?_) ?_
          · go_simp
            refine hK.out _ _ ?_ (fun hHeld => ?_)
            · (refine ⟨?_, ?_, ?_, ?_⟩ <;> (first | (simp [go_sem]; done) | assumption))
            clear hK K
            try simp only [Act.put, List.setIfInBounds_toArray, List.set_cons_zero, List.set_cons_succ]
            refine wpAnyH_ready (rs := [21]) (by kernel_rfl) (by simp) ?_
            refine AllReadyH.cons (o := { dst := some 41, op := Op.call { callee := Callee.value (Operand.func 59), args := #[Operand.tmp 40], argTypes := #[169] }, type := 9, pos := "save.go:67", after := #[{ on := 20, ground := Ground.data }, { on := 3, ground := Ground.chain }], guard := none }) rfl (fun K hK => ?_) ?_
            · go_simp
              (go_at_call 59; refine (hF3.out _ _ ?_ ?_).mono ?_; (focus (repeat' (first | (with_reducible exact HB.out) | (with_reducible exact HB.out.size) | (with_reducible refine below_plus ?_ ?_ _ _) | (with_reducible refine Below.alloc ?_ ?_ _) | (with_reducible refine Below.drew ?_) | (simp; done) | (simp; omega)))); (focus (first | (simp only [block_drew, block_at]; done) | (simp only [block_drew, block_alloc', block_plus', block_at]; done))); rintro e wq ⟨rfl, hb⟩; obtain ⟨os, dd, rfl⟩ := plus_of_below hb; clear hb)
              refine hK.out _ _ ?_ (fun hHeld => ?_)
              · (refine ⟨?_, ?_, ?_, ?_⟩ <;> (first | (simp [go_sem]; done) | assumption))
              clear hK K
              try simp only [Act.put, List.setIfInBounds_toArray, List.set_cons_zero, List.set_cons_succ]
              refine wpAnyH_take (i := 22) (oi := { dst := some 42, op := Op.binOp BinOp.add 9 (Operand.tmp 25) (Operand.tmp 41) 9, type := 9, pos := "save.go:67", after := #[{ on := 5, ground := Ground.data }, { on := 21, ground := Ground.data }], guard := none }) (v := ?_) rfl (by kernel_rfl) (by kernel_rfl) (by kernel_rfl) (fun _ _ _ h => h) (Or.inl ⟨by rfl, ?_⟩) (by assumption) ?_
              rotate_left
              · intro w hSw
                (try dsimp only at hSw)
                go_simp
                all_goals (with_reducible rfl)
              try simp only [Act.put, List.setIfInBounds_toArray, List.set_cons_zero, List.set_cons_succ]
              refine wpAnyH_take (i := 23) (oi := { dst := some 43, op := Op.binOp BinOp.add 9 (Operand.tmp 42) (Operand.const (Value.string { data := #[10] })) 9, type := 9, pos := "save.go:67", after := #[{ on := 22, ground := Ground.data }], guard := none }) (v := ?_) rfl (by kernel_rfl) (by kernel_rfl) (by kernel_rfl) (fun _ _ _ h => h) (Or.inl ⟨by rfl, ?_⟩) (by assumption) ?_
              rotate_left
              · intro w hSw
                (try dsimp only at hSw)
                go_simp
                all_goals (with_reducible rfl)
              try simp only [Act.put, List.setIfInBounds_toArray, List.set_cons_zero, List.set_cons_succ]
              refine wpAnyH_ready (rs := [24]) (by kernel_rfl) (by simp) ?_
              refine AllReadyH.cons (o := { dst := some 44, op := Op.buildSlice 39 1 #[(0, Operand.tmp 43)], type := 39, pos := "save.go:67", after := #[{ on := 23, ground := Ground.data }], guard := none }) rfl (fun K hK => ?_) ?_
              · go_simp
                refine hK.out _ _ ?_ (fun hHeld => ?_)
                · (refine ⟨?_, ?_, ?_, ?_⟩ <;> (first | (simp [go_sem]; done) | assumption))
                clear hK K
                try simp only [Act.put, List.setIfInBounds_toArray, List.set_cons_zero, List.set_cons_succ]
                refine wpAnyH_ready (rs := [25]) (by kernel_rfl) (by simp) ?_
                refine AllReadyH.cons (o := { dst := some 45, op := Op.call { callee := Callee.builtin Builtin.append, args := #[Operand.tmp 20, Operand.tmp 44], argTypes := #[39, 39] }, type := 39, pos := "save.go:67", after := #[{ on := 0, ground := Ground.data }, { on := 24, ground := Ground.data }, { on := 21, ground := Ground.chain }], guard := none }) rfl (fun K hK => ?_) ?_
                · (refine step_app2 w.heap.size 9 ti _ 1 16 Tryz.underlying39 hti htz hts htb rfl (by omega) (.slice a' k cap') k ((l.take k).map fun x => sV (elLine x)) (by rfl) (by (repeat' (first | (with_reducible exact OWR.out) | (with_reducible apply World.ownsRow.alloc) | (with_reducible apply World.ownsRow.drew) | (with_reducible apply own_plus)))) [.string ({ data := #[101, 108, 101, 109, 101, 110, 116, 32] } ++ D ++ { data := #[32] } ++ F ++ { data := #[10] })] (by refine Exists.intro _ (Exists.intro _ (And.intro rfl (World.news_of_block (cs := #[.string ({ data := #[101, 108, 101, 109, 101, 110, 116, 32] } ++ D ++ { data := #[32] } ++ F ++ { data := #[10] })]) (t := 9) (fr := (0, 0)) ?_))); (first | (simp only [block_drew, block_at]; done) | (simp only [block_drew, block_alloc', block_plus', block_at]; done))) (by rfl) (by simp [Value.oneCell']) (by unfold maxLen; omega) (by omega) (by simp; omega) ?_; intro g1 cp1 wa hown1 hgrow hat hlt; have HG := hid hgrow; have y0 : wa.cell? ⟨wr.heap.size, 0, none⟩ = some (Value.int .u8 x.1) := hgrow.cell (by simp [go_sem]) nvX; have y1 : wa.cell? ⟨wr.heap.size, 1, none⟩ = some (Value.complex .f64 x.2.1.1 x.2.1.2) := hgrow.cell (by simp [go_sem]) nvX; have y2 : wa.cell? ⟨wr.heap.size, 2, none⟩ = some (Value.complex .f64 x.2.2.1.1 x.2.2.1.2) := hgrow.cell (by simp [go_sem]) nvX; have y3 : wa.cell? ⟨wr.heap.size, 3, none⟩ = some (Value.float .f64 x.2.2.2) := hgrow.cell (by simp [go_sem]) nvX; clear hgrow)
                  refine hK.out _ _ ?_ (fun hHeld => ?_)
                  · (refine ⟨?_, ?_, ?_, ?_⟩ <;> (first | (simp [go_sem]; done) | assumption))
                  clear hK K
                  try simp only [Act.put, List.setIfInBounds_toArray, List.set_cons_zero, List.set_cons_succ]
                  refine wpAnyH_take (i := 26) (oi := { dst := some 5, op := Op.assign (Operand.tmp 45), type := 39, pos := "save.go:67", after := #[{ on := 25, ground := Ground.data }, { on := 25, ground := Ground.chain }, { on := 0, ground := Ground.phase }, { on := 1, ground := Ground.phase }, { on := 2, ground := Ground.phase }, { on := 3, ground := Ground.phase }, { on := 4, ground := Ground.phase }, { on := 5, ground := Ground.phase }, { on := 6, ground := Ground.phase }, { on := 7, ground := Ground.phase }, { on := 8, ground := Ground.phase }, { on := 9, ground := Ground.phase }, { on := 10, ground := Ground.phase }, { on := 11, ground := Ground.phase }, { on := 12, ground := Ground.phase }, { on := 13, ground := Ground.phase }, { on := 14, ground := Ground.phase }, { on := 15, ground := Ground.phase }, { on := 16, ground := Ground.phase }, { on := 17, ground := Ground.phase }, { on := 18, ground := Ground.phase }, { on := 19, ground := Ground.phase }, { on := 20, ground := Ground.phase }, { on := 21, ground := Ground.phase }, { on := 22, ground := Ground.phase }, { on := 23, ground := Ground.phase }, { on := 24, ground := Ground.phase }, { on := 25, ground := Ground.phase }], guard := none }) (v := ?_) rfl (by kernel_rfl) (by kernel_rfl) (by kernel_rfl) (fun _ _ _ h => h) (Or.inl ⟨by rfl, ?_⟩) (by assumption) ?_
                  rotate_left
                  · intro w hSw
                    (try dsimp only at hSw)
                    go_simp
                    all_goals (with_reducible rfl)
                  try simp only [Act.put, List.setIfInBounds_toArray, List.set_cons_zero, List.set_cons_succ]
                  refine wpAnyH_done (by kernel_rfl) ?_ _
                  have HBA : Below w.heap.size w wa := by
                    refine Below.trans ?_ (own_grow (B0 := w.heap.size) (E := 9) (size := 1) (n := k) (xs := (l.take k).map fun x => sV (elLine x)) ?_ ?_ HG.out)
                    · (repeat' (first | (with_reducible exact HB.out) | (with_reducible exact HB.out.size) | (with_reducible refine below_plus ?_ ?_ _ _) | (with_reducible refine Below.alloc ?_ ?_ _) | (with_reducible refine Below.drew ?_) | (simp; done) | (simp; omega)))
                    · (repeat' (first | (with_reducible exact OWR.out) | (with_reducible apply World.ownsRow.alloc) | (with_reducible apply World.ownsRow.drew) | (with_reducible apply own_plus)))
                    · simp; omega
                  have hstr : Value.string ({ data := #[101, 108, 101, 109, 101, 110, 116, 32] } ++ D ++ { data := #[32] } ++ F ++ { data := #[10] }) = sV (elLine x) := by
                    refine congrArg Value.string (ba_eq ?_)
                    simp only [ba_append]
                    rw [HF.out, HD.out]
                    simp [elLine, elW, wElement]
                  rw [hstr] at hown1
                  go_wp2_with fail
                  go_roundw
                  case rel => exact ⟨k + 1, _, _, by rfl, rfl, by omega, by rw [HTK.out]; exact hid hown1, HBA⟩
                  case measure => simp [intOf]; omega
                exact AllReadyH.nil
              exact AllReadyH.nil
            exact AllReadyH.nil
          exact AllReadyH.nil
        refine AllReadyH.cons (o := { dst := some 40, op := Op.buildSlice 169 5 #[(0, Operand.tmp 28), (1, Operand.tmp 31), (2, Operand.tmp 34), (3, Operand.tmp 37), (4, Operand.tmp 39)], type := 169, pos := "save.go:67", after := #[{ on := 8, ground := Ground.data }, { on := 11, ground := Ground.data }, { on := 14, ground := Ground.data }, { on := 17, ground := Ground.data }, { on := 19, ground := Ground.data }], guard := none }) rfl (fun K hK => ?_) ?_
        · go_simp
          refine hK.out _ _ ?_ (fun hHeld => ?_)
          · (refine ⟨?_, ?_, ?_, ?_⟩ <;> (first | (simp [go_sem]; done) | assumption))
          clear hK K
          try simp only [Act.put, List.setIfInBounds_toArray, List.set_cons_zero, List.set_cons_succ]
          refine wpAnyH_ready (rs := [3]) (by kernel_rfl) (by simp) ?_
          refine AllReadyH.cons (o := { dst := some 23, op := Op.call { callee := Callee.value (Operand.func 58), args := #[Operand.tmp 22], argTypes := #[5] }, type := 9, pos := "save.go:67", after := #[{ on := 2, ground := Ground.data }], guard := none }) rfl (fun K hK => ?_) ?_
          · go_simp
            (go_at_call 58; refine (hD3.out _).mono ?_; rintro e wq ⟨rfl, rfl⟩)
            refine hK.out _ _ ?_ (fun hHeld => ?_)
            · (refine ⟨?_, ?_, ?_, ?_⟩ <;> (first | (simp [go_sem]; done) | assumption))
            clear hK K
            try simp only [Act.put, List.setIfInBounds_toArray, List.set_cons_zero, List.set_cons_succ]
            refine wpAnyH_take (i := 4) (oi := { dst := some 24, op := Op.binOp BinOp.add 9 (Operand.const (Value.string { data := #[101, 108, 101, 109, 101, 110, 116, 32] })) (Operand.tmp 23) 9, type := 9, pos := "save.go:67", after := #[{ on := 3, ground := Ground.data }], guard := none }) (v := ?_) rfl (by kernel_rfl) (by kernel_rfl) (by kernel_rfl) (fun _ _ _ h => h) (Or.inl ⟨by rfl, ?_⟩) (by assumption) ?_
            rotate_left
            · intro w hSw
              (try dsimp only at hSw)
              go_simp
              all_goals (with_reducible rfl)
            try simp only [Act.put, List.setIfInBounds_toArray, List.set_cons_zero, List.set_cons_succ]
            refine wpAnyH_take (i := 5) (oi := { dst := some 25, op := Op.binOp BinOp.add 9 (Operand.tmp 24) (Operand.const (Value.string { data := #[32] })) 9, type := 9, pos := "save.go:67", after := #[{ on := 4, ground := Ground.data }], guard := none }) (v := ?_) rfl (by kernel_rfl) (by kernel_rfl) (by kernel_rfl) (fun _ _ _ h => h) (Or.inl ⟨by rfl, ?_⟩) (by assumption) ?_
            rotate_left
            · intro w hSw
              (try dsimp only at hSw)
              go_simp
              all_goals (with_reducible rfl)
            try simp only [Act.put, List.setIfInBounds_toArray, List.set_cons_zero, List.set_cons_succ]
            refine wpAnyH_ready (rs := [21]) (by kernel_rfl) (by simp) ?_
            refine AllReadyH.cons (o := { dst := some 41, op := Op.call { callee := Callee.value (Operand.func 59), args := #[Operand.tmp 40], argTypes := #[169] }, type := 9, pos := "save.go:67", after := #[{ on := 20, ground := Ground.data }, { on := 3, ground := Ground.chain }], guard := none }) rfl (fun K hK => ?_) ?_
            · go_simp
              (go_at_call 59; refine (hF3.out _ _ ?_ ?_).mono ?_; (focus (repeat' (first | (with_reducible exact HB.out) | (with_reducible exact HB.out.size) | (with_reducible refine below_plus ?_ ?_ _ _) | (with_reducible refine Below.alloc ?_ ?_ _) | (with_reducible refine Below.drew ?_) | (simp; done) | (simp; omega)))); (focus (first | (simp only [block_drew, block_at]; done) | (simp only [block_drew, block_alloc', block_plus', block_at]; done))); rintro e wq ⟨rfl, hb⟩; obtain ⟨os, dd, rfl⟩ := plus_of_below hb; clear hb)
              refine hK.out _ _ ?_ (fun hHeld => ?_)
              · (refine ⟨?_, ?_, ?_, ?_⟩ <;> (first | (simp [go_sem]; done) | assumption))
              clear hK K
              try simp only [Act.put, List.setIfInBounds_toArray, List.set_cons_zero, List.set_cons_succ]
              refine wpAnyH_take (i := 22) (oi := { dst := some 42, op := Op.binOp BinOp.add 9 (Operand.tmp 25) (Operand.tmp 41) 9, type := 9, pos := "save.go:67", after := #[{ on := 5, ground := Ground.data }, { on := 21, ground := Ground.data }], guard := none }) (v := ?_) rfl (by kernel_rfl) (by kernel_rfl) (by kernel_rfl) (fun _ _ _ h => h) (Or.inl ⟨by rfl, ?_⟩) (by assumption) ?_
              rotate_left
              · intro w hSw
                (try dsimp only at hSw)
                go_simp
                all_goals (with_reducible rfl)
              try simp only [Act.put, List.setIfInBounds_toArray, List.set_cons_zero, List.set_cons_succ]
              refine wpAnyH_take (i := 23) (oi := { dst := some 43, op := Op.binOp BinOp.add 9 (Operand.tmp 42) (Operand.const (Value.string { data := #[10] })) 9, type := 9, pos := "save.go:67", after := #[{ on := 22, ground := Ground.data }], guard := none }) (v := ?_) rfl (by kernel_rfl) (by kernel_rfl) (by kernel_rfl) (fun _ _ _ h => h) (Or.inl ⟨by rfl, ?_⟩) (by assumption) ?_
              rotate_left
              · intro w hSw
                (try dsimp only at hSw)
                go_simp
                all_goals (with_reducible rfl)
              try simp only [Act.put, List.setIfInBounds_toArray, List.set_cons_zero, List.set_cons_succ]
              refine wpAnyH_ready (rs := [24]) (by kernel_rfl) (by simp) ?_
              refine AllReadyH.cons (o := { dst := some 44, op := Op.buildSlice 39 1 #[(0, Operand.tmp 43)], type := 39, pos := "save.go:67", after := #[{ on := 23, ground := Ground.data }], guard := none }) rfl (fun K hK => ?_) ?_
              · go_simp
                refine hK.out _ _ ?_ (fun hHeld => ?_)
                · (refine ⟨?_, ?_, ?_, ?_⟩ <;> (first | (simp [go_sem]; done) | assumption))
                clear hK K
                try simp only [Act.put, List.setIfInBounds_toArray, List.set_cons_zero, List.set_cons_succ]
                refine wpAnyH_ready (rs := [25]) (by kernel_rfl) (by simp) ?_
                refine AllReadyH.cons (o := { dst := some 45, op := Op.call { callee := Callee.builtin Builtin.append, args := #[Operand.tmp 20, Operand.tmp 44], argTypes := #[39, 39] }, type := 39, pos := "save.go:67", after := #[{ on := 0, ground := Ground.data }, { on := 24, ground := Ground.data }, { on := 21, ground := Ground.chain }], guard := none }) rfl (fun K hK => ?_) ?_
                · (refine step_app2 w.heap.size 9 ti _ 1 16 Tryz.underlying39 hti htz hts htb rfl (by omega) (.slice a' k cap') k ((l.take k).map fun x => sV (elLine x)) (by rfl) (by (repeat' (first | (with_reducible exact OWR.out) | (with_reducible apply World.ownsRow.alloc) | (with_reducible apply World.ownsRow.drew) | (with_reducible apply own_plus)))) [.string ({ data := #[101, 108, 101, 109, 101, 110, 116, 32] } ++ D ++ { data := #[32] } ++ F ++ { data := #[10] })] (by refine Exists.intro _ (Exists.intro _ (And.intro rfl (World.news_of_block (cs := #[.string ({ data := #[101, 108, 101, 109, 101, 110, 116, 32] } ++ D ++ { data := #[32] } ++ F ++ { data := #[10] })]) (t := 9) (fr := (0, 0)) ?_))); (first | (simp only [block_drew, block_at]; done) | (simp only [block_drew, block_alloc', block_plus', block_at]; done))) (by rfl) (by simp [Value.oneCell']) (by unfold maxLen; omega) (by omega) (by simp; omega) ?_; intro g1 cp1 wa hown1 hgrow hat hlt; have HG := hid hgrow; have y0 : wa.cell? ⟨wr.heap.size, 0, none⟩ = some (Value.int .u8 x.1) := hgrow.cell (by simp [go_sem]) nvX; have y1 : wa.cell? ⟨wr.heap.size, 1, none⟩ = some (Value.complex .f64 x.2.1.1 x.2.1.2) := hgrow.cell (by simp [go_sem]) nvX; have y2 : wa.cell? ⟨wr.heap.size, 2, none⟩ = some (Value.complex .f64 x.2.2.1.1 x.2.2.1.2) := hgrow.cell (by simp [go_sem]) nvX; have y3 : wa.cell? ⟨wr.heap.size, 3, none⟩ = some (Value.float .f64 x.2.2.2) := hgrow.cell (by simp [go_sem]) nvX; clear hgrow)
                  refine hK.out _ _ ?_ (fun hHeld => ?_)
                  · (refine ⟨?_, ?_, ?_, ?_⟩ <;> (first | (simp [go_sem]; done) | assumption))
                  clear hK K
                  try simp only [Act.put, List.setIfInBounds_toArray, List.set_cons_zero, List.set_cons_succ]
                  refine wpAnyH_take (i := 26) (oi := { dst := some 5, op := Op.assign (Operand.tmp 45), type := 39, pos := "save.go:67", after := #[{ on := 25, ground := Ground.data }, { on := 25, ground := Ground.chain }, { on := 0, ground := Ground.phase }, { on := 1, ground := Ground.phase }, { on := 2, ground := Ground.phase }, { on := 3, ground := Ground.phase }, { on := 4, ground := Ground.phase }, { on := 5, ground := Ground.phase }, { on := 6, ground := Ground.phase }, { on := 7, ground := Ground.phase }, { on := 8, ground := Ground.phase }, { on := 9, ground := Ground.phase }, { on := 10, ground := Ground.phase }, { on := 11, ground := Ground.phase }, { on := 12, ground := Ground.phase }, { on := 13, ground := Ground.phase }, { on := 14, ground := Ground.phase }, { on := 15, ground := Ground.phase }, { on := 16, ground := Ground.phase }, { on := 17, ground := Ground.phase }, { on := 18, ground := Ground.phase }, { on := 19, ground := Ground.phase }, { on := 20, ground := Ground.phase }, { on := 21, ground := Ground.phase }, { on := 22, ground := Ground.phase }, { on := 23, ground := Ground.phase }, { on := 24, ground := Ground.phase }, { on := 25, ground := Ground.phase }], guard := none }) (v := ?_) rfl (by kernel_rfl) (by kernel_rfl) (by kernel_rfl) (fun _ _ _ h => h) (Or.inl ⟨by rfl, ?_⟩) (by assumption) ?_
                  rotate_left
                  · intro w hSw
                    (try dsimp only at hSw)
                    go_simp
                    all_goals (with_reducible rfl)
                  try simp only [Act.put, List.setIfInBounds_toArray, List.set_cons_zero, List.set_cons_succ]
                  refine wpAnyH_done (by kernel_rfl) ?_ _
                  have HBA : Below w.heap.size w wa := by
                    refine Below.trans ?_ (own_grow (B0 := w.heap.size) (E := 9) (size := 1) (n := k) (xs := (l.take k).map fun x => sV (elLine x)) ?_ ?_ HG.out)
                    · (repeat' (first | (with_reducible exact HB.out) | (with_reducible exact HB.out.size) | (with_reducible refine below_plus ?_ ?_ _ _) | (with_reducible refine Below.alloc ?_ ?_ _) | (with_reducible refine Below.drew ?_) | (simp; done) | (simp; omega)))
                    · (repeat' (first | (with_reducible exact OWR.out) | (with_reducible apply World.ownsRow.alloc) | (with_reducible apply World.ownsRow.drew) | (with_reducible apply own_plus)))
                    · simp; omega
                  have hstr : Value.string ({ data := #[101, 108, 101, 109, 101, 110, 116, 32] } ++ D ++ { data := #[32] } ++ F ++ { data := #[10] }) = sV (elLine x) := by
                    refine congrArg Value.string (ba_eq ?_)
                    simp only [ba_append]
                    rw [HF.out, HD.out]
                    simp [elLine, elW, wElement]
                  rw [hstr] at hown1
                  go_wp2_with fail
                  go_roundw
                  case rel => exact ⟨k + 1, _, _, by rfl, rfl, by omega, by rw [HTK.out]; exact hid hown1, HBA⟩
                  case measure => simp [intOf]; omega
                exact AllReadyH.nil
              exact AllReadyH.nil
            exact AllReadyH.nil
          exact AllReadyH.nil
        exact AllReadyH.nil
      · obtain rfl : k = l.length := by omega
        have how := OWR.out
        rw [List.take_of_length_le (Nat.le_refl _), show (l.map fun x => sV (elLine x)) = (l.map elLine).map sV by rw [List.map_map]; rfl] at how
        have hlen2 : (l.map elLine).flatten.length ≤ 1000000 := by
          have h2 : ∀ (q : List El), (∀ x ∈ q, x.1 < 256) → (q.map elLine).flatten.length ≤ 110 * q.length := by
            intro q
            induction q with
            | nil => intro _; simp
            | cons y q ih =>
              intro hq
              have h3 := ih (fun x hx => hq x (by simp [hx]))
              have h4 := floatsW_len [y.2.1.1, y.2.1.2, y.2.2.1.1, y.2.2.1.2, y.2.2.2]
              have h5 := decW_len 3 y.1 (by have := hq y (by simp); omega)
              simp only [List.map_cons, List.flatten_cons, List.length_append, List.length_cons, Nat.mul_add]
              simp [elLine, wElement, elW] at h3 h4 h5 ⊢
              omega
          have := h2 l (fun x hx => (hf x hx).1)
          omega
        have hsv := saved_w w.heap.size l.length kFlow kElements (by decide) (by decide) _ (l.map elLine) wr (V'.out.keep (Keeps.of_below (S := []) hb) h40 (by simp)) (by omega) how (by simp) hlen2 (by omega)
        rw [show savedW kFlow.data.toList kElements.data.toList l.length (l.map elLine).flatten = flowW l by unfold flowW; rw [List.flatMap_def]; rfl] at hsv
        have HSV := hid hsv
        have HB := hid hb
        clear hsv how hb hlen2
        go_wp2_with fail
        refine HSV.out.mono ?_
        rintro e w2 ⟨rfl, hb2⟩
        have HB2 := hid (HB.out.trans (hb2.mono hsz))
        clear hb2
        go_wp2_with fail
        go_ret2
        exact ⟨by rw [HQ.out]; rfl, HB2.out⟩
end
section
open Go.RowKit
/-- A finite part. -/
def finB (x : Nat) : Bool := FloatKind.f64.format.order (x % 9223372036854775808) 9218868437227405311 == some Ordering.lt || FloatKind.f64.format.order (x % 9223372036854775808) 9218868437227405311 == some Ordering.eq
set_option synthInstance.maxHeartbeats 2000000 in
set_option synthInstance.maxSize 100000 in
set_option maxRecDepth 100000 in
set_option maxHeartbeats 16000000 in
theorem hFinite {x : Nat} {w : World} (hx : x < 18446744073709551616) : Calls Tryz.prog 162 #[.float .f64 x] w fun e w' => e = .returned (.bool (finB x)) ∧ w' = w := by
  have A := hid (fun W : World => fabs_any x hx W)
  go_enter Tryz.func162, Tryz.ntmps162
  go_wp2_with (go_at_call 121; (with_reducible refine Calls.mono (A.out _) ?_); rintro e w' ⟨rfl, hw⟩; obtain rfl := hw.symm)
  go_ret
  exact ⟨rfl, rfl⟩
set_option synthInstance.maxHeartbeats 2000000 in
set_option synthInstance.maxSize 100000 in
set_option maxRecDepth 100000 in
set_option maxHeartbeats 16000000 in
theorem hPFinite {x y : Nat} {w : World} (hx : x < 18446744073709551616) (hy : y < 18446744073709551616) : Calls Tryz.prog 117 #[.complex .f64 x y] w fun e w' => e = .returned (.bool (finB x && finB y)) ∧ w' = w := by
  have A := hid (fun W : World => hFinite (w := W) hx)
  have B := hid (fun W : World => hFinite (w := W) hy)
  generalize finB x = b0 at *
  generalize finB y = b1 at *
  cases b0 <;> cases b1
  all_goals
    go_enter Tryz.func117, Tryz.ntmps117
    go_wp2_with (first | (go_at_call 162; (with_reducible refine Calls.mono (A.out _) ?_); rintro e w' ⟨rfl, hw⟩; obtain rfl := hw.symm) | (go_at_call 162; (with_reducible refine Calls.mono (B.out _) ?_); rintro e w' ⟨rfl, hw⟩; obtain rfl := hw.symm))
    go_ret
    exact ⟨rfl, rfl⟩
set_option synthInstance.maxHeartbeats 2000000 in
set_option synthInstance.maxSize 100000 in
set_option maxRecDepth 100000 in
set_option maxHeartbeats 16000000 in
theorem hPlace {x y : Nat} {w : World} (hx : x < 18446744073709551616) (hy : y < 18446744073709551616) (h1 : witB x = true) (h2 : witB y = true) : Calls Tryz.prog 115 #[.complex .f64 x y] w fun e w' => e = .returned (.int .i64 0) ∧ w' = w := by
  have A := hid (fun W : World => hPWithin (w := W) hx hy)
  rw [h1, h2] at A
  clear h1 h2
  go_enter Tryz.func115, Tryz.ntmps115
  go_wp2_with (go_at_call 120; (with_reducible refine Calls.mono (A.out _) ?_); rintro e w' ⟨rfl, hw⟩; obtain rfl := hw.symm)
  go_ret
  exact ⟨rfl, rfl⟩
end
section
open Go.RowKit
set_option synthInstance.maxHeartbeats 2000000 in
set_option synthInstance.maxSize 100000 in
set_option maxRecDepth 100000 in
set_option maxHeartbeats 16000000 in
theorem hSumOne {x y g cap : Nat} {w : World} (hc : w.cell? ⟨g, 0, none⟩ = some (.complex .f64 x y)) : Calls Tryz.prog 116 #[.slice (some ⟨g, 0, none⟩) 1 cap] w fun e w' => e = .returned (.complex .f64 x y) ∧ w' = w := by
  go_enter Tryz.func116, Tryz.ntmps116
  go_wp2_with fail
  go_loopw [3, 7] (fun s3 s7 wx => ∃ j : Int, s7 = .int .i64 j ∧ (j = 0 ∨ j = 1 ∧ s3 = .complex .f64 x y) ∧ w = wx) (fun _ s7 _ => 1 - (intOf s7).toNat)
  case atStart => exact ⟨0, rfl, .inl rfl, rfl⟩
  case round =>
    obtain ⟨j, rfl, hj, rfl⟩ := hrel
    rcases hj with rfl | ⟨rfl, rfl⟩
    · go_wp2_with fail
      go_round
      case rel => exact ⟨1, by first | rfl | go_num, .inr ⟨rfl, rfl⟩, by first | rfl | trivial⟩
      case measure => simp [intOf]
    · go_wp2_with fail
      go_ret
      exact ⟨rfl, rfl⟩
end
section
open Go.RowKit
set_option synthInstance.maxHeartbeats 2000000 in
set_option synthInstance.maxSize 100000 in
set_option maxRecDepth 100000 in
set_option maxHeartbeats 16000000 in
theorem hOf {s : Nat × Nat} {w : World} : Calls Tryz.prog 194 #[.agg #[.int .u8 1, .complex .f64 0 0, .complex .f64 s.1 s.2, .float .f64 0]] w fun e w' => e = .returned (.iface 294 (.agg #[.complex .f64 s.1 s.2])) ∧ Kp0 w w' := by
  go_enter Tryz.func194, Tryz.ntmps194
  go_wp2_with fail
  go_ret
  exact ⟨rfl, ⟨Gr.out⟩⟩
end
section
open Go.RowKit
set_option synthInstance.maxHeartbeats 2000000 in
set_option synthInstance.maxSize 100000 in
set_option maxRecDepth 100000 in
set_option maxHeartbeats 16000000 in
theorem hSub0 {w : World} : Calls Tryz.prog 195 #[.complex .f64 0 0, .complex .f64 0 0] w fun e w' => e = .returned (.complex .f64 0 0) ∧ w' = w := by
  have z : ∀ W : World, (binOp .sub 32 (.float .f64 0) (.float .f64 0)).run Tryz.prog W = .ok (.float .f64 0) W := fun W => by kernel_rfl
  go_enter Tryz.func195, Tryz.ntmps195
  go_wp2_with fail
  go_ret
  exact ⟨rfl, rfl⟩
end
section
open Go.RowKit
set_option synthInstance.maxHeartbeats 2000000 in
set_option synthInstance.maxSize 100000 in
set_option maxRecDepth 100000 in
set_option maxHeartbeats 16000000 in
theorem hMiddle {x y n : Nat} {w : World} : Calls Tryz.prog 196 #[.iface 294 (.agg #[.complex .f64 x y]), .int .i64 n] w fun e w' => e = .returned (.tuple #[.int .i64 0, .bool false]) ∧ w' = w := by
  have t299 : ∀ W : World, (Instr.typeAssert (.iface 294 (.agg #[.complex .f64 x y])) 278 299 true).run Tryz.prog W = .ok (.tuple #[.agg #[.complex .f64 0 0], .bool false]) W := fun W => by kernel_rfl
  have t301 : ∀ W : World, (Instr.typeAssert (.iface 294 (.agg #[.complex .f64 x y])) 278 301 true).run Tryz.prog W = .ok (.tuple #[.agg #[.complex .f64 0 0, .int .i64 0], .bool false]) W := fun W => by kernel_rfl
  have t304 : ∀ W : World, (Instr.typeAssert (.iface 294 (.agg #[.complex .f64 x y])) 278 304 true).run Tryz.prog W = .ok (.tuple #[.agg #[.complex .f64 0 0, .float .f64 0], .bool false]) W := fun W => by kernel_rfl
  go_enter Tryz.func196, Tryz.ntmps196
  go_wp2_with fail
  refine bodyPost_ret (results_tmp2 rfl _ _ _) rfl ?_
  exact ⟨rfl, rfl⟩
end
section
open Go.RowKit
set_option synthInstance.maxHeartbeats 2000000 in
set_option synthInstance.maxSize 100000 in
set_option maxRecDepth 100000 in
set_option maxHeartbeats 16000000 in
theorem hStreamSpeed {x y a b : Nat} {w : World} : Calls Tryz.prog 261 #[.agg #[.complex .f64 x y], .complex .f64 a b] w fun e w' => e = .returned (.complex .f64 x y) ∧ Kp0 w w' := by
  go_enter Tryz.func261, Tryz.ntmps261
  go_wp2_with fail
  go_ret
  exact ⟨rfl, ⟨Gr.out⟩⟩
end
section
open Go.RowKit
set_option synthInstance.maxHeartbeats 2000000 in
set_option synthInstance.maxSize 100000 in
set_option maxRecDepth 100000 in
set_option maxHeartbeats 16000000 in
theorem hMul0 {w : World} : Calls Tryz.prog 262 #[.complex .f64 4611686018427387904 4607182418800017408, .complex .f64 0 0] w fun e w' => e = .returned (.complex .f64 0 0) ∧ w' = w := by
  have z1 : ∀ W : World, (binOp .mul 32 (.float .f64 4611686018427387904) (.float .f64 0)).run Tryz.prog W = .ok (.float .f64 0) W := fun W => by kernel_rfl
  have z2 : ∀ W : World, (binOp .mul 32 (.float .f64 4607182418800017408) (.float .f64 0)).run Tryz.prog W = .ok (.float .f64 0) W := fun W => by kernel_rfl
  have z3 : ∀ W : World, (binOp .sub 32 (.float .f64 0) (.float .f64 0)).run Tryz.prog W = .ok (.float .f64 0) W := fun W => by kernel_rfl
  have z4 : ∀ W : World, (binOp .add 32 (.float .f64 0) (.float .f64 0)).run Tryz.prog W = .ok (.float .f64 0) W := fun W => by kernel_rfl
  go_enter Tryz.func262, Tryz.ntmps262
  go_wp2_with fail
  go_ret
  exact ⟨rfl, rfl⟩
set_option synthInstance.maxHeartbeats 2000000 in
set_option synthInstance.maxSize 100000 in
set_option maxRecDepth 100000 in
set_option maxHeartbeats 16000000 in
theorem hStreamPot {w : World} : Calls Tryz.prog 259 #[.agg #[.complex .f64 4611686018427387904 4607182418800017408], .complex .f64 0 0, .complex .f64 0 0] w fun e w' => e = .returned (.complex .f64 0 0) ∧ Kp0 w w' := by
  go_enter Tryz.func259, Tryz.ntmps259
  go_wp2_with (go_at_call 262; (with_reducible refine Calls.mono hMul0 ?_); rintro e wc ⟨rfl, hw⟩; obtain rfl := hw.symm)
  go_ret
  exact ⟨rfl, ⟨Gr.out⟩⟩
end
section
open Go.RowKit
theorem okS21 : OkS (4611686018427387904, 4607182418800017408) := ⟨⟨by decide, by decide⟩, by kernel_rfl, by kernel_rfl⟩
theorem fin0 : finB 0 = true := by kernel_rfl
theorem finS2 : finB 4611686018427387904 = true := by kernel_rfl
theorem finS1 : finB 4607182418800017408 = true := by kernel_rfl
set_option synthInstance.maxHeartbeats 2000000 in
set_option synthInstance.maxSize 100000 in
set_option maxRecDepth 100000 in
set_option maxHeartbeats 16000000 in
theorem hValue0 {w : World} : Calls Tryz.prog 163 #[.agg #[.int .u8 1, .complex .f64 0 0, .complex .f64 4611686018427387904 4607182418800017408, .float .f64 0], .complex .f64 0 0, .int .i64 0] w fun e w' => e = .returned (.tuple #[.complex .f64 0 0, .int .i64 0]) ∧ Kp0 w w' := by
  haveI := okS21
  have C := hid (fun W : World => hElem (s := (4611686018427387904, 4607182418800017408)) (w := W))
  have R0 := hid (fun W : World => hReals (x := 0) (y := 0) (w := W) (by decide) (by decide))
  have F := hid (fun W : World => hPFinite (x := 0) (y := 0) (w := W) (by decide) (by decide))
  have O := hid (fun W : World => hOf (s := (4611686018427387904, 4607182418800017408)) (w := W))
  rw [wit0] at R0
  rw [fin0] at F
  go_enter Tryz.func163, Tryz.ntmps163
  go_wp2_with (first | (go_at_call 48; (with_reducible refine Calls.mono (C.out _) ?_); rintro e wc ⟨rfl, _⟩) | (go_at_call 77; (with_reducible refine Calls.mono (R0.out _) ?_); rintro e w' ⟨rfl, hw⟩; obtain rfl := hw.symm))
  go_region_held3 (fun W => W.cell? ⟨w.heap.size, 0, none⟩ = some (.int .u8 1) ∧ W.cell? ⟨w.heap.size, 1, none⟩ = some (.complex .f64 0 0) ∧ W.cell? ⟨w.heap.size, 2, none⟩ = some (.complex .f64 4611686018427387904 4607182418800017408) ∧ W.cell? ⟨w.heap.size, 3, none⟩ = some (.float .f64 0)) (refine ⟨?_, ?_, ?_, ?_⟩ <;> (first | exact Bk.cell BkC.out rfl | (simp [go_sem]; done))) (first | (go_at_call 194; (with_reducible refine Calls.mono (O.out _) ?_); rintro e wc ⟨rfl, _⟩) | (go_at_call 195; (with_reducible refine Calls.mono (hSub0) ?_); rintro e w' ⟨rfl, hw⟩; obtain rfl := hw.symm))
  all_goals (go_wp2_with (first | (go_at_call 79; (with_reducible refine Calls.mono (hNought0) ?_); rintro e w' ⟨rfl, hw⟩; obtain rfl := hw.symm) | (go_at_call 196; (with_reducible refine Calls.mono (hMiddle) ?_); rintro e w' ⟨rfl, hw⟩; obtain rfl := hw.symm) | (go_at_call 259; (with_reducible refine Calls.mono (hStreamPot) ?_); rintro e wc ⟨rfl, _⟩) | (go_at_call 261; (with_reducible refine Calls.mono (hStreamSpeed) ?_); rintro e wc ⟨rfl, _⟩) | (go_at_call 117; (with_reducible refine Calls.mono (F.out _) ?_); rintro e w' ⟨rfl, hw⟩; obtain rfl := hw.symm)))
  all_goals (go_ret2)
  all_goals exact ⟨rfl, ⟨Gr.out⟩⟩
set_option synthInstance.maxHeartbeats 2000000 in
set_option synthInstance.maxSize 100000 in
set_option maxRecDepth 100000 in
set_option maxHeartbeats 16000000 in
theorem hValue1 {w : World} : Calls Tryz.prog 163 #[.agg #[.int .u8 1, .complex .f64 0 0, .complex .f64 4611686018427387904 4607182418800017408, .float .f64 0], .complex .f64 0 0, .int .i64 1] w fun e w' => e = .returned (.tuple #[.complex .f64 4611686018427387904 4607182418800017408, .int .i64 0]) ∧ Kp0 w w' := by
  haveI := okS21
  have C := hid (fun W : World => hElem (s := (4611686018427387904, 4607182418800017408)) (w := W))
  have R0 := hid (fun W : World => hReals (x := 0) (y := 0) (w := W) (by decide) (by decide))
  have F := hid (fun W : World => hPFinite (x := 4611686018427387904) (y := 4607182418800017408) (w := W) (by decide) (by decide))
  have O := hid (fun W : World => hOf (s := (4611686018427387904, 4607182418800017408)) (w := W))
  rw [wit0] at R0
  rw [finS2, finS1] at F
  go_enter Tryz.func163, Tryz.ntmps163
  go_wp2_with (first | (go_at_call 48; (with_reducible refine Calls.mono (C.out _) ?_); rintro e wc ⟨rfl, _⟩) | (go_at_call 77; (with_reducible refine Calls.mono (R0.out _) ?_); rintro e w' ⟨rfl, hw⟩; obtain rfl := hw.symm))
  go_region_held3 (fun W => W.cell? ⟨w.heap.size, 0, none⟩ = some (.int .u8 1) ∧ W.cell? ⟨w.heap.size, 1, none⟩ = some (.complex .f64 0 0) ∧ W.cell? ⟨w.heap.size, 2, none⟩ = some (.complex .f64 4611686018427387904 4607182418800017408) ∧ W.cell? ⟨w.heap.size, 3, none⟩ = some (.float .f64 0)) (refine ⟨?_, ?_, ?_, ?_⟩ <;> (first | exact Bk.cell BkC.out rfl | (simp [go_sem]; done))) (first | (go_at_call 194; (with_reducible refine Calls.mono (O.out _) ?_); rintro e wc ⟨rfl, _⟩) | (go_at_call 195; (with_reducible refine Calls.mono (hSub0) ?_); rintro e w' ⟨rfl, hw⟩; obtain rfl := hw.symm))
  all_goals (go_wp2_with (first | (go_at_call 79; (with_reducible refine Calls.mono (hNought0) ?_); rintro e w' ⟨rfl, hw⟩; obtain rfl := hw.symm) | (go_at_call 196; (with_reducible refine Calls.mono (hMiddle) ?_); rintro e w' ⟨rfl, hw⟩; obtain rfl := hw.symm) | (go_at_call 259; (with_reducible refine Calls.mono (hStreamPot) ?_); rintro e wc ⟨rfl, _⟩) | (go_at_call 261; (with_reducible refine Calls.mono (hStreamSpeed) ?_); rintro e wc ⟨rfl, _⟩) | (go_at_call 117; (with_reducible refine Calls.mono (F.out _) ?_); rintro e w' ⟨rfl, hw⟩; obtain rfl := hw.symm)))
  all_goals (go_ret2)
  all_goals exact ⟨rfl, ⟨Gr.out⟩⟩
end
end Go.Proofs.YtmjpfoninpbgiaaGreatDoor
