/- The readers of saves, of the given program. -/
import Derived.Test.YtnagagcgmfkjjaaGreatDoorO
set_option linter.unusedSimpArgs false
set_option linter.unusedVariables false
namespace Go.Proofs.YtnagagcgmfkjjaaGreatDoor
open Go.RowKit

theorem run_makeFunc (fn : Fn) (first cap : Array Value) (w : World) : (Instr.makeFunc fn first cap).run Tryz.prog w = .ok (.func fn first cap) w := rfl
theorem elem_b (l : By) (st : St) : (elemS l st).2 = (floatS l (mustS l [[32]] (numS l (mustS l [[32]] (numS l (mustS l [[32]] (wholeS l 8 st).2)).2)).2)).2 := by
  simp only [elemS]
theorem elem_le (s : ByteArray) (st : St) (h : st.1 ≤ s.size) : (elemS s.data.toList st).2.1 ≤ s.size := by
  have h0 : st.1 ≤ s.data.toList.length := by rw [size_list]; exact h
  have h1 := whole_le s.data.toList 8 st h0
  have h2 := must_le s.data.toList [[32]] _ h1
  have h3 := num_le s.data.toList _ h2
  have h4 := must_le s.data.toList [[32]] _ h3
  have h5 := num_le s.data.toList _ h4
  have h6 := must_le s.data.toList [[32]] _ h5
  have h7 := float_le s.data.toList _ h6
  rw [← size_list, elem_b]
  exact h7
theorem whole8_le (l : By) (st : St) (h : st.1 ≤ l.length) : (wholeS l 8 st).2.1 ≤ l.length := whole_le l 8 st h
theorem trac_a (l : By) (st : St) (h0 : st.1 ≤ l.length) : (mustS l [[32]] (floatS l (mustS l [[32]] (numS l st).2)).2).1 ≤ l.length := by
  have h1 := num_le l st h0
  have h2 := must_le l [[32]] _ h1
  have h3 := float_le l _ h2
  exact must_le l [[32]] _ h3
theorem trac_b (l : By) (st : St) : (tracS l st).2 = (wholeS l 8 (mustS l [[32]] (floatS l (mustS l [[32]] (numS l st).2)).2)).2 := by
  unfold tracS
  rfl
theorem trac_le0 (l : By) (st : St) (h0 : st.1 ≤ l.length) : (tracS l st).2.1 ≤ l.length := by
  rw [trac_b]
  exact whole8_le l _ (trac_a l st h0)
theorem trac_le (s : ByteArray) (st : St) (h : st.1 ≤ s.size) : (tracS s.data.toList st).2.1 ≤ s.size := by
  have := trac_le0 s.data.toList st (by rw [size_list]; exact h)
  rwa [size_list] at this
theorem whir_le (s : ByteArray) (st : St) (h : st.1 ≤ s.size) : (whirS s.data.toList st).2.1 ≤ s.size := by
  have h0 : st.1 ≤ s.data.toList.length := by rw [size_list]; exact h
  have := float_le _ _ (must_le s.data.toList [[32]] _ (num_le s.data.toList st h0))
  rw [size_list] at this
  exact this
set_option maxRecDepth 100000 in
theorem lawF (s : ByteArray) (hs : s.size ≤ 70000) : Law 31 78 56 4 s (elemS s.data.toList) elCells elW :=
  ⟨fun _ _ => by kernel_rfl, fun rb i a LB B0 n sv xs w h1 h2 h3 h4 h5 h6 h7 h8 => lineF_any rb s i a LB B0 n sv xs w h1 h2 hs h3 h4 h5 h6 h7 h8, elem_le s, elem_ok _⟩
set_option maxRecDepth 100000 in
theorem lawT (s : ByteArray) (hs : s.size ≤ 70000) : Law 34 84 58 3 s (tracS s.data.toList) trCells trW :=
  ⟨fun _ _ => by kernel_rfl, fun rb i a LB B0 n sv xs w h1 h2 h3 h4 h5 h6 h7 h8 => lineT_any rb s i a LB B0 n sv xs w h1 h2 hs h3 h4 h5 h6 h7 h8, trac_le s, trac_ok _⟩
set_option maxRecDepth 100000 in
theorem lawW (s : ByteArray) (hs : s.size ≤ 70000) : Law 35 86 60 2 s (whirS s.data.toList) whCells whW :=
  ⟨fun _ _ => by kernel_rfl, fun rb i a LB B0 n sv xs w h1 h2 h3 h4 h5 h6 h7 h8 => lineW_any rb s i a LB B0 n sv xs w h1 h2 hs h3 h4 h5 h6 h7 h8, whir_le s, whir_ok _⟩
theorem sixteen_fits (s : By) (st : St) : fits (sixteenS s st).1 := by
  unfold sixteenS fits
  split
  · simp only []
    split
    · rename_i h
      have := hexV_lt (runS s isHex 16 st.1) (run_all s isHex 16 st.1)
      rw [h] at this
      have e : (16 : Nat) ^ 16 = 18446744073709551616 := by decide
      show hexV (runS s isHex 16 st.1) < _
      omega
    · show (0 : Nat) < _; omega
  · show (0 : Nat) < _; omega
theorem float_fits (s : By) (st : St) : fits (floatS s st).1 := by
  unfold floatS
  simp only []
  split <;> exact sixteen_fits s st
theorem lines_all {α : Type} {s one : By} {line : St → α × St} {P : α → Prop} (h : ∀ st, P (line st).1) : ∀ (k : Nat) (st : St), ∀ x ∈ (linesS s one line k st).1, P x := by
  intro k
  induction k with
  | zero => intro st x hx; cases hx
  | succ k ih =>
    intro st x hx
    by_cases h0 : st.2 < 0
    · simp only [linesS, if_pos h0, List.mem_cons] at hx
      rcases hx with rfl | hx
      · exact h _
      · exact ih _ x hx
    · simp only [linesS, if_neg h0] at hx
      cases hx
theorem read_all {α : Type} {s kind word one : By} {line : St → α × St} {P : α → Prop} (h : ∀ st, P (line st).1) : ∀ x ∈ (readS s kind word one line).1, P x := by
  unfold readS
  split
  · intro x hx; cases hx
  · simp only []
    split
    · split <;> exact lines_all h _ _
    · exact lines_all h _ _
/-- What the given program's readers tell: the list, the fault's code and place. -/
def flowR (s : By) : List El × Int × Int :=
  if (readF s).2.1 = 0 then (if flowChk (readF s).1 = 0 then ((readF s).1, 0, 0) else ([], flowChk (readF s).1, 0)) else ([], (readF s).2)
def tracersR (s : By) : List Tr × Int × Int :=
  if (readT s).2.1 = 0 then (if 4096 < (readT s).1.length then ([], 4, 0) else ((readT s).1, 0, 0)) else ([], (readT s).2)
def whirlsR (s : By) : List Wh × Int × Int :=
  if (readW s).2.1 = 0 then (if whirlChk (readW s).1 = 0 then ((readW s).1, 0, 0) else ([], whirlChk (readW s).1, 0)) else ([], (readW s).2)
def kFlow : ByteArray := ⟨#[102, 108, 111, 119]⟩
def kElements : ByteArray := ⟨#[101, 108, 101, 109, 101, 110, 116, 115]⟩
def kElement : ByteArray := ⟨#[101, 108, 101, 109, 101, 110, 116]⟩
def kTracers : ByteArray := ⟨#[116, 114, 97, 99, 101, 114, 115]⟩
def kTracer : ByteArray := ⟨#[116, 114, 97, 99, 101, 114]⟩
def kWhirls : ByteArray := ⟨#[119, 104, 105, 114, 108, 115]⟩
def kWhirl : ByteArray := ⟨#[119, 104, 105, 114, 108]⟩
theorem Told.alloc {w w' : World} {c p : Int} {v : Value} (h : Told w c p v w') (o : Obj) : Told w c p v (w'.alloc o) := by
  rcases h with h | ⟨hc, g, h1, h2, h3⟩
  · exact .inl h
  · exact .inr ⟨hc, g, h1, h2, (Below.heap_alloc w' o g (lt_of_block h3)).trans h3⟩
theorem own_mono {w : World} {B B0 E size n : Nat} {sv : Value} {xs : List Value} (h : w.ownsRow B E size sv n xs) (hB : B0 ≤ B) : w.ownsRow B0 E size sv n xs := by
  refine ⟨h.1, ?_⟩
  rcases h.2 with h2 | ⟨g, cap, cur, rfl, hg, r⟩
  · exact .inl h2
  · exact .inr ⟨g, cap, cur, rfl, Nat.le_trans hB hg, r⟩
theorem own_nil (w : World) (B0 E size : Nat) : w.ownsRow B0 E size (.slice none 0 0) 0 [] := ⟨by simp, .inl ⟨rfl, rfl⟩⟩
set_option maxRecDepth 100000 in
set_option maxHeartbeats 8000000 in
theorem readF_any (s : ByteArray) (hs : s.size ≤ 70000) (w : World) (V : Vars w) (h40 : 8 ≤ w.heap.size) :
    Calls Tryz.prog 7 #[.string s] w fun e w' => ∃ sv v, e = .returned (.tuple #[.agg #[sv], v]) ∧ Told w (flowR s.data.toList).2.1 (flowR s.data.toList).2.2 v w' ∧
      w'.ownsRow w.heap.size 56 4 sv (flowR s.data.toList).1.length ((flowR s.data.toList).1.flatMap elCells) ∧ Below w.heap.size w w' := by
  have hmf := run_makeFunc
  have hV : Hid (Vars ((w.alloc (.cells #[.slice none 0 0] 25)).alloc (.cells #[.slice none 0 0] 78))) := hid (V.keep (B := w.heap.size) (S := []) (((Keeps.refl _ _ _).alloc (Nat.le_refl _) _).alloc (by simp) _) h40 (by simp))
  obtain ⟨Q, hQ⟩ : ∃ Q, Q = flowR s.data.toList := ⟨_, rfl⟩
  rw [← hQ]
  unfold flowR at hQ
  have HQ := hid hQ
  clear hQ V
  go_enter Tryz.func7, Tryz.ntmps7
  go_wp2_with fail
  refine (read_any 31 78 56 4 s kFlow kElements kElement (elemS s.data.toList) elCells elW (lawF s hs) hs (w.heap.size + 1) _ hV.out (by decide) (by decide) (by simp only [block_at]) (by omega)).mono ?_
  rintro e wq ⟨v, sv, rfl, hT, hrow, hK⟩
  rw [show readS s.data.toList kFlow.data.toList kElements.data.toList kElement.data.toList (elemS s.data.toList) = readF s.data.toList from rfl] at hT hrow
  obtain ⟨R, hR⟩ : ∃ R, R = readF s.data.toList := ⟨_, rfl⟩
  have hro := readF_ok (s := s.data.toList)
  have hfit : ∀ x ∈ (readF s.data.toList).1, fits x.2.2.2 := read_all (fun st => by unfold elemS; exact float_fits _ _)
  rw [← hR] at hT hrow hro hfit
  have hqv := HQ.out
  rw [← hR] at hqv
  clear hR
  have hbq : Below w.heap.size w wq := Keeps.below (Keeps.trans (((Keeps.refl w.heap.size [] w).alloc (Nat.le_refl _) _).alloc (by simp) _) (hK.mono (by simp; omega) (fun k hk h => by simp at h; omega)))
  have hb0 : wq.heap[w.heap.size]? = some (.cells #[.slice none 0 0] 25 (0, 0)) := (hK.block w.heap.size (by simp; omega) (by simp)).trans (by simp only [block_alloc', block_at])
  have r0 := cell_of_block hb0 0
  have rf := free_of_block hb0 0
  simp at r0
  haveI : Has wq w.heap.size := ⟨lt_of_block hb0⟩
  have hszq := hbq.size
  rcases hT with ⟨hc, rfl⟩ | ⟨hc, g, hg, rfl, hgb⟩
  · obtain ⟨hl1, hl2, -⟩ := hro hc
    rw [size_list] at hl1 hl2
    rw [if_pos hc] at hqv
    obtain ⟨hlb, hown⟩ := hrow hl1
    obtain ⟨sa, scap, rfl, -⟩ := own_form hown
    have l0 := cell_of_block hlb 0
    simp at l0
    haveI : Has wq (w.heap.size + 1) := ⟨lt_of_block hlb⟩
    have HB := hid hbq
    have OWN := hid hown
    clear hbq hlb hrow hK hown
    have hck := flow_check R.1 hfit _ _ wq OWN.out (by omega)
    have HCK := hid hck
    clear hck
    by_cases hz : flowChk R.1 = 0
    · rw [if_pos hz] at hqv
      have HV := hid hqv
      clear hqv
      rw [hz] at HCK
      go_wp2_with fail
      refine HCK.out.mono ?_
      rintro e w2 ⟨rfl, hb2⟩
      have k0 : w2.cell? ⟨w.heap.size + 1, 0, none⟩ = some (.slice sa R.1.length scap) := ((Keeps.of_below (S := []) hb2).cell (q := ⟨w.heap.size + 1, 0, none⟩) Has.lt (by simp)).trans l0
      have k1 := (hb2.block w.heap.size Has.lt).trans hb0
      have k2 := cell_of_block k1 0
      have k3 := free_of_block k1 0
      simp at k2
      haveI : Has w2 w.heap.size := ⟨lt_of_block k1⟩
      have HB2 := hid hb2
      clear hb2
      have OW2 := own_keeps OWN.out (Keeps.of_below (S := []) HB2.out) (Nat.le_refl _) (by simp)
      go_wp2_with fail
      refine bodyPost_ret (v := .tuple #[.agg #[.slice sa R.1.length scap], .nilIface]) (by simp [results, Tryz.results7, go_sem, k2]) rfl ⟨_, _, rfl, ?_, ?_, ?_⟩
      · rw [HV.out]; exact .inl ⟨rfl, rfl⟩
      · rw [HV.out]
        exact own_set (own_mono OW2 (by simp; omega)) (own_ne OW2 k1 (by decide))
      · exact (HB.out.trans (HB2.out.mono HB.out.size)).setCell (Nat.le_refl _) _
    · have hz' : (flowChk R.1 != 0) = true := by simpa using hz
      rw [if_neg hz] at hqv
      have HV := hid hqv
      clear hqv
      go_wp2_with fail
      refine HCK.out.mono ?_
      rintro e w2 ⟨rfl, hb2⟩
      have k1 := (hb2.block w.heap.size Has.lt).trans hb0
      have k2 := cell_of_block k1 0
      have k3 := free_of_block k1 0
      simp at k2
      haveI : Has w2 w.heap.size := ⟨lt_of_block k1⟩
      have HB2 := hid hb2
      have hlt2 : w.heap.size < w2.heap.size := lt_of_block k1
      clear hb2 k1
      go_wp2_with (go_at_call 33; ((with_reducible refine (fault_any _ _ _).mono ?_); rintro e w' ⟨rfl, rfl⟩))
      refine bodyPost_ret (v := .tuple #[.agg #[.slice none 0 0], .iface 121 (.pointer (some ⟨w2.heap.size, 0, none⟩))]) (by simp [results, Tryz.results7, go_sem, k2]) rfl ⟨_, _, rfl, ?_, ?_, ?_⟩
      · rw [HV.out]
        refine .inr ⟨hz, w2.heap.size, Nat.le_trans HB.out.size HB2.out.size, rfl, ?_⟩
        simp only [block_at]
      · rw [HV.out]; exact own_nil _ _ _ _
      · exact ((HB.out.trans (HB2.out.mono HB.out.size)).setCell (Nat.le_refl _) _).alloc (by rw [World.size_setCell]; exact Nat.le_trans HB.out.size HB2.out.size) _
  · rw [if_neg hc] at hqv
    have HV := hid hqv
    have HB := hid hbq
    clear hqv hbq hK hrow
    go_wp2_with fail
    refine bodyPost_ret (v := .tuple #[.agg #[.slice none 0 0], .iface 121 (.pointer (some ⟨g, 0, none⟩))]) (by simp [results, Tryz.results7, go_sem, r0]) rfl ⟨_, _, rfl, ?_, ?_, ?_⟩
    · rw [HV.out]
      refine .inr ⟨hc, g, by simp at hg; omega, rfl, ?_⟩
      exact (block_ne _ _ _ _ _ (by simp at hg; omega)).trans hgb
    · rw [HV.out]; exact own_nil _ _ _ _
    · exact HB.out.setCell (Nat.le_refl _) _
end Go.Proofs.YtnagagcgmfkjjaaGreatDoor
