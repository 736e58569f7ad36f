/- Saves of whirls and numbers written, of the given program. -/
import Derived.Test.YtnagagcgmfkjjaaGreatDoorX
set_option linter.unusedSimpArgs false
set_option linter.unusedVariables false
namespace Go.Proofs.YtnagagcgmfkjjaaGreatDoor
open Go.RowKit

set_option maxRecDepth 100000 in
set_option maxHeartbeats 4000000 in
theorem number_w (a b : Nat) (ha : fits a) (hb : fits b) (w : World) (V : Vars w) (h40 : 8 ≤ w.heap.size) :
    Calls Tryz.prog 27 #[.complex .f64 a b] w fun e w' => e = .returned (.string ⟨(floatsW [a, b]).toArray⟩) ∧ Below w.heap.size w w' := by
  have hf := floats_w [a, b] (by intro x hx; simp at hx; rcases hx with rfl | rfl <;> assumption) (by simp) (by simp) w.heap.size 2 (w.alloc (.cells #[.float .f64 a, .float .f64 b] 54))
    (V.keep (Keeps.alloc (Keeps.refl w.heap.size [] w) (Nat.le_refl _) _) h40 (by simp)) (by simp; omega) (by
      intro j hj
      rw [cell_of_block (show (w.alloc (.cells #[.float .f64 a, .float .f64 b] 54)).heap[w.heap.size]? = some (.cells #[.float .f64 a, .float .f64 b] 54 (0, 0)) by simp only [block_at])]
      rcases (show j = 0 ∨ j = 1 by simp at hj; omega) with rfl | rfl <;> rfl)
  have HF := hid hf
  clear hf V
  go_enter Tryz.func27, Tryz.ntmps27
  go_wp2_with fail
  refine HF.out.mono ?_
  rintro e w1 ⟨rfl, hb1⟩
  go_wp2_with fail
  go_ret
  exact ⟨rfl, (Below.alloc (Below.refl _ _) (Nat.le_refl _) _).trans (hb1.mono (by simp))⟩
def fitS (l : By) : By × Int := if 65536 < l.length then ([], 3) else (l, 0)
set_option maxRecDepth 100000 in
theorem fit_any (l : By) (w : World) : Calls Tryz.prog 55 #[.string ⟨l.toArray⟩] w fun e w' => e = .returned (.tuple #[.string ⟨(fitS l).1.toArray⟩, .int .i64 (fitS l).2]) ∧ w = w' := by
  obtain ⟨t, ht⟩ : ∃ t : ByteArray, t = ⟨l.toArray⟩ := ⟨_, rfl⟩
  have hs : t.size = l.length := by rw [ht]; simp [ByteArray.size]
  rw [← ht]
  unfold fitS
  by_cases h : 65536 < l.length
  · rw [if_pos h]
    have h2 : 65536 < t.size := by omega
    clear ht
    go_enter Tryz.func55, Tryz.ntmps55
    go_wp2_with fail
    go_ret2
    exact ⟨rfl, rfl⟩
  · rw [if_neg h]
    have h2 : ¬ 65536 < t.size := by omega
    have HT := hid ht
    clear ht
    go_enter Tryz.func55, Tryz.ntmps55
    go_wp2_with fail
    go_ret2
    exact ⟨by rw [HT.out]; rfl, rfl⟩
/-- What the writers tell. -/
def whirlsO (l : List Wh) : By × Int := if whirlChk l = 0 then fitS (whirlsW l) else ([], whirlChk l)
def tracersO (l : List Tr) : By × Int := if 4096 < l.length then ([], 4) else fitS (tracersW l)
def flowO (l : List El) : By × Int := if flowChk l = 0 then (flowW l, 0) else ([], flowChk l)
def whLine (x : Wh) : By := wWhirl ++ [32] ++ whW x ++ [10]
def trLine (x : Tr) : By := wTracer ++ [32] ++ trW x ++ [10]
def elLine (x : El) : By := wElement ++ [32] ++ elW x ++ [10]
theorem flat_len {α : Type} (f : α → By) (m : Nat) (h : ∀ x, (f x).length ≤ m) (l : List α) : (l.map f).flatten.length ≤ m * l.length := by
  induction l with
  | nil => simp
  | cons x l ih =>
    have := h x
    simp only [List.map_cons, List.flatten_cons, List.length_append, List.length_cons, Nat.mul_add]
    omega
theorem whChk_len (l : List Wh) (h : whirlChk l = 0) : l.length ≤ 4096 := by
  unfold whirlChk at h
  by_cases hl : 4096 < l.length
  · rw [if_pos hl] at h; cases h
  · omega
set_option maxRecDepth 100000 in
set_option maxHeartbeats 8000000 in
theorem whirls_w (l : List Wh) (hf : ∀ x ∈ l, fits x.1.1 ∧ fits x.1.2 ∧ fits x.2) (hn : l.length ≤ 70000) (B0 : Nat) (sv : Value) (w : World) (V : Vars w) (h40 : 8 ≤ w.heap.size) (ho : w.ownsRow B0 60 2 sv l.length (l.flatMap whCells)) :
    Calls Tryz.prog 21 #[sv] w fun e w' => e = .returned (.tuple #[.string ⟨(whirlsO l).1.toArray⟩, .int .i64 (whirlsO l).2]) ∧ Below w.heap.size w w' := by
  have hck := whirl_check l B0 sv w ho hn
  obtain ⟨a, cap, rfl, hcells⟩ := own_form ho
  have V' := hid V
  have OWN := hid ho
  have HC := hid hcells
  have HCK := hid hck
  clear V ho hcells hck
  obtain ⟨Q, hQ⟩ : ∃ Q, Q = whirlsO l := ⟨_, rfl⟩
  rw [← hQ]
  unfold whirlsO at hQ
  obtain ⟨ti, hti, htz, hts, htb⟩ := info_parts Tryz.info9
  by_cases hz : whirlChk l = 0
  · rw [if_pos hz] at hQ
    have hlen := whChk_len l hz
    rw [hz] at HCK
    have HQ := hid hQ
    clear hQ hz
    go_enter Tryz.func21, Tryz.ntmps21
    go_wp2_with fail
    refine HCK.out.mono ?_
    rintro e w0 ⟨rfl, hb0⟩
    have HB0 := hid hb0
    clear hb0
    go_wp2_with fail
    go_loopw [5, 15] (fun t5 t15 wr => ∃ (k : Nat) (a' : Option Addr) (cap' : Nat), t15 = .int .i64 k ∧ t5 = .slice a' k cap' ∧ k ≤ l.length ∧ Hid (wr.ownsRow w.heap.size 9 1 (.slice a' k cap') k ((l.take k).map fun x => sV (whLine x))) ∧ Below w.heap.size w wr) (fun _ t15 _ => l.length - (intOf t15).toNat)
    case atStart => exact ⟨0, none, 0, rfl, rfl, Nat.zero_le _, hid (own_nil _ _ _ _), HB0.out⟩
    case round =>
      obtain ⟨k, a', cap', rfl, rfl, hk, OWR, hb⟩ := hrel
      have hsz := hb.size
      by_cases hkn : k < l.length
      · obtain ⟨g, rfl, hce⟩ := HC.out (by omega)
        have hx : l[k]? = some l[k] := List.getElem?_eq_getElem hkn
        have hfx := hf l[k] (List.getElem_mem hkn)
        have htk : (l.take (k + 1)).map (fun x => sV (whLine x)) = (l.take k).map (fun x => sV (whLine x)) ++ [sV (whLine l[k])] := by
          rw [List.take_succ_eq_append_getElem hkn, List.map_append]; rfl
        obtain ⟨x, hxx⟩ : ∃ x, x = l[k] := ⟨_, rfl⟩
        rw [← hxx] at hx hfx htk
        have hlenx : (l.flatMap whCells).length = 2 * l.length := by rw [OWN.out.1, Nat.mul_comm]
        have hcw : ∀ j, j < 2 → wr.cell? ⟨g, k * 2 + j, none⟩ = (whCells x)[j]? := fun j hj => by
          have h1 := hce (k * 2 + j) (by rw [hlenx]; omega)
          rw [flat_at whCells 2 (fun _ => rfl) l k j x hx hj] at h1
          rw [← h1]
          exact (Keeps.of_below (S := []) hb).cell (q := ⟨g, k * 2 + j, none⟩) (World.block_lt_of_cell? _ _ (h1.trans (List.getElem?_eq_getElem (by exact hj)))) (by simp)
        have c0 : wr.cell? ⟨g, k * 2, none⟩ = some (.complex .f64 x.1.1 x.1.2) := hcw 0 (by omega)
        have c1 : wr.cell? ⟨g, k * 2 + 1, none⟩ = some (.float .f64 x.2) := hcw 1 (by omega)
        have hglt := World.block_lt_of_cell? _ _ c0
        haveI : Has wr g := ⟨hglt⟩
        have HTK := hid htk
        have HB := hid hb
        clear hcw hce hxx hx htk hb
        obtain ⟨F, hF⟩ : ∃ F : ByteArray, F = ⟨(floatsW [x.1.1, x.1.2, x.2]).toArray⟩ := ⟨_, rfl⟩
        have hFl : F.data.toList = floatsW [x.1.1, x.1.2, x.2] := by rw [hF]
        have hFs : F.size ≤ 51 := by rw [← size_list, hFl]; exact floatsW_len _
        have hfl := fun w1 V1 h1 h2 => floats_w [x.1.1, x.1.2, x.2] (by intro y hy; simp at hy; rcases hy with rfl | rfl | rfl; exact hfx.1; exact hfx.2.1; exact hfx.2.2) (by simp) (by simp) (wr.heap.size + 1) 3 w1 V1 h1 h2
        rw [← hF] at hfl
        have HFL := hid hfl
        have HF := hid hFl
        have k1 : (9223372036854775807 < 6 + F.size) = False := by simp; omega
        have k2 : (9223372036854775807 < 6 + F.size + 1) = False := by simp; omega
        have hVr := V'.out.keep (Keeps.alloc (Keeps.alloc (Keeps.of_below (S := []) HB.out) hsz (.cells #[.complex .f64 x.1.1 x.1.2, .float .f64 x.2] 60)) (by simp; omega) (.cells #[.float .f64 x.1.1, .float .f64 x.1.2, .float .f64 x.2] 54)) h40 (by simp)
        clear hfl hFl hF hFs
        go_wp2_with fail
        refine (HFL.out _ hVr (by simp; omega) (by
          intro j hj
          rw [cell_of_block (show ((wr.alloc (.cells #[.complex .f64 x.1.1 x.1.2, .float .f64 x.2] 60)).alloc (.cells #[.float .f64 x.1.1, .float .f64 x.1.2, .float .f64 x.2] 54)).heap[wr.heap.size + 1]? = some (.cells #[.float .f64 x.1.1, .float .f64 x.1.2, .float .f64 x.2] 54 (0, 0)) by simp only [block_at])]
          rcases (show j = 0 ∨ j = 1 ∨ j = 2 by simp at hj; omega) with rfl | rfl | rfl <;> rfl)).mono ?_
        rintro e w1 ⟨rfl, hb1⟩
        have OW1 := hid (own_below ((OWR.out.alloc (.cells #[.complex .f64 x.1.1 x.1.2, .float .f64 x.2] 60)).alloc (.cells #[.float .f64 x.1.1, .float .f64 x.1.2, .float .f64 x.2] 54)) hb1)
        have hs1 : wr.heap.size + 1 + 1 ≤ w1.heap.size := by have := hb1.size; simp at this; exact this
        have HB1 := hid (((HB.out.alloc hsz (.cells #[.complex .f64 x.1.1 x.1.2, .float .f64 x.2] 60)).alloc (by simp; omega) (.cells #[.float .f64 x.1.1, .float .f64 x.1.2, .float .f64 x.2] 54)).trans (hb1.mono (by simp; omega)))
        clear hb1
        go_wp2_with ((at_builtin; refine wpList_append_lies _ (by rfl) _ _ _ (by rfl) w.heap.size 9 ti _ 1 16 Tryz.underlying69 hti htz hts htb rfl (by omega) _ k ((l.take k).map fun x => sV (whLine x)) (by rfl) (OW1.out.alloc _) ⟨w1.heap.size, 0, none⟩ 1 1 [.string ({ data := #[119, 104, 105, 114, 108, 32] } ++ F ++ { data := #[10] })] (by rfl) (by rfl) (World.news_of_block (cs := #[.string ({ data := #[119, 104, 105, 114, 108, 32] } ++ F ++ { data := #[10] })]) (t := 9) (fr := (0, 0)) (by simp only [block_at])) (by simp [Value.oneCell']) (by omega) (by unfold maxLen; omega) (by omega) (by simp; omega) (w1.heap.size + 1) (by simp) ?_; intro gg cp wa hown1 hgrow hat hlt))
        go_roundw
        case rel =>
          have hstr : Value.string ({ data := #[119, 104, 105, 114, 108, 32] } ++ F ++ { data := #[10] }) = sV (whLine x) := by
            refine congrArg Value.string (ba_eq ?_)
            simp only [ba_append]
            rw [HF.out]
            rfl
          rw [hstr] at hown1
          exact ⟨k + 1, _, _, by rfl, rfl, by omega, by rw [HTK.out]; exact hid hown1, (HB1.out.alloc HB1.out.size _).trans (own_grow (OW1.out.alloc _) (by simp; omega) hgrow)⟩
        case measure => simp [intOf]; omega
      · obtain rfl : k = l.length := by omega
        have how := OWR.out
        rw [List.take_of_length_le (Nat.le_refl _), show (l.map fun x => sV (whLine x)) = (l.map whLine).map sV by rw [List.map_map]; rfl] at how
        have hsv := saved_w w.heap.size l.length kWhirls kWhirls (by decide) (by decide) _ (l.map whLine) wr (V'.out.keep (Keeps.of_below (S := []) hb) h40 (by simp)) (by omega) how (by simp) (by
          have := flat_len whLine 60 (fun x => by
            have h1 := floatsW_len [x.1.1, x.1.2, x.2]
            simp [whLine, wWhirl, whW] at h1 ⊢
            omega) l
          omega) (by omega)
        rw [show savedW kWhirls.data.toList kWhirls.data.toList l.length (l.map whLine).flatten = whirlsW l by unfold whirlsW; rw [List.flatMap_def]; rfl] at hsv
        have HSV := hid hsv
        have HB := hid hb
        clear hsv how hb
        go_wp2_with fail
        refine HSV.out.mono ?_
        rintro e w2 ⟨rfl, hb2⟩
        have HB2 := hid (HB.out.trans (hb2.mono hsz))
        clear hb2
        go_wp2_with fail
        refine (fit_any (whirlsW l) w2).mono ?_
        rintro e w3 ⟨rfl, rfl⟩
        go_wp2_with fail
        go_ret2
        exact ⟨by rw [HQ.out]; rfl, HB2.out⟩
  · rw [if_neg hz] at hQ
    have hz' : (whirlChk l != 0) = true := by simpa using hz
    have HQ := hid hQ
    clear hQ
    go_enter Tryz.func21, Tryz.ntmps21
    go_wp2_with fail
    refine HCK.out.mono ?_
    rintro e w0 ⟨rfl, hb0⟩
    have HB0 := hid hb0
    clear hb0
    go_wp2_with fail
    go_ret2
    exact ⟨by rw [HQ.out]; rfl, HB0.out⟩
end Go.Proofs.YtnagagcgmfkjjaaGreatDoor
