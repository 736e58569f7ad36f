/- Saves of tracers written, of the given program. -/
import Derived.Test.YtnagagcgmfkjjaaGreatDoorP
import Derived.Deep.RegionHeld3
set_option linter.unusedSimpArgs false
set_option linter.unusedVariables false
namespace Go.Proofs.YtnagagcgmfkjjaaGreatDoor
open Go.RowKit

set_option maxRecDepth 100000 in
set_option maxHeartbeats 16000000 in
theorem tracers_w (l : List Tr) (hf : ∀ x ∈ l, fits x.1.1 ∧ fits x.1.2 ∧ fits x.2.1 ∧ x.2.2 < 256) (hn : l.length ≤ 70000) (B0 : Nat) (sv : Value) (w : World) (V : Vars w) (h40 : 8 ≤ w.heap.size) (ho : w.ownsRow B0 58 3 sv l.length (l.flatMap trCells)) :
    Calls Tryz.prog 20 #[sv] w fun e w' => e = .returned (.tuple #[.string ⟨(tracersO l).1.toArray⟩, .int .i64 (tracersO l).2]) ∧ Below w.heap.size w w' := by
  obtain ⟨a, cap, rfl, hcells⟩ := own_form ho
  have V' := hid V
  have OWN := hid ho
  have HC := hid hcells
  clear V ho hcells
  obtain ⟨Q, hQ⟩ : ∃ Q, Q = tracersO l := ⟨_, rfl⟩
  rw [← hQ]
  unfold tracersO at hQ
  obtain ⟨ti, hti, htz, hts, htb⟩ := info_parts Tryz.info9
  by_cases hz : 4096 < l.length
  · rw [if_pos hz] at hQ
    have HQ := hid hQ
    clear hQ
    go_enter Tryz.func20, Tryz.ntmps20
    go_wp2_with fail
    go_ret2
    exact ⟨by rw [HQ.out]; rfl, Below.refl _ _⟩
  · rw [if_neg hz] at hQ
    have hlen : l.length ≤ 4096 := by omega
    have HQ := hid hQ
    clear hQ
    go_enter Tryz.func20, Tryz.ntmps20
    go_wp2_with fail
    go_loopw [4, 12] (fun t5 t15 wr => ∃ (k : Nat) (a' : Option Addr) (cap' : Nat), t15 = .int .i64 k ∧ t5 = .slice a' k cap' ∧ k ≤ l.length ∧ Hid (wr.ownsRow w.heap.size 9 1 (.slice a' k cap') k ((l.take k).map fun x => sV (trLine x))) ∧ Below w.heap.size w wr) (fun _ t15 _ => l.length - (intOf t15).toNat)
    case atStart => exact ⟨0, none, 0, rfl, rfl, Nat.zero_le _, hid (own_nil _ _ _ _), Below.refl _ _⟩
    case round =>
      obtain ⟨k, a', cap', rfl, rfl, hk, OWR, hb⟩ := hrel
      have hsz := hb.size
      by_cases hkn : k < l.length
      · obtain ⟨g, rfl, hce⟩ := HC.out (by omega)
        have hx : l[k]? = some l[k] := List.getElem?_eq_getElem hkn
        have hfx := hf l[k] (List.getElem_mem hkn)
        have htk : (l.take (k + 1)).map (fun x => sV (trLine x)) = (l.take k).map (fun x => sV (trLine x)) ++ [sV (trLine l[k])] := by
          rw [List.take_succ_eq_append_getElem hkn, List.map_append]; rfl
        obtain ⟨x, hxx⟩ : ∃ x, x = l[k] := ⟨_, rfl⟩
        rw [← hxx] at hx hfx htk
        have hlenx : (l.flatMap trCells).length = 3 * l.length := by rw [OWN.out.1, Nat.mul_comm]
        have hcw : ∀ j, j < 3 → wr.cell? ⟨g, k * 3 + j, none⟩ = (trCells x)[j]? := fun j hj => by
          have h1 := hce (k * 3 + j) (by rw [hlenx]; omega)
          rw [flat_at trCells 3 (fun _ => rfl) l k j x hx hj] at h1
          rw [← h1]
          exact (Keeps.of_below (S := []) hb).cell (q := ⟨g, k * 3 + j, none⟩) (World.block_lt_of_cell? _ _ (h1.trans (List.getElem?_eq_getElem (by exact hj)))) (by simp)
        have c0 : wr.cell? ⟨g, k * 3, none⟩ = some (.complex .f64 x.1.1 x.1.2) := hcw 0 (by omega)
        have c1 : wr.cell? ⟨g, k * 3 + 1, none⟩ = some (.float .f64 x.2.1) := hcw 1 (by omega)
        have c2 : wr.cell? ⟨g, k * 3 + 2, none⟩ = some (.int .u8 x.2.2) := hcw 2 (by omega)
        have hglt := World.block_lt_of_cell? _ _ c0
        haveI : Has wr g := ⟨hglt⟩
        have HTK := hid htk
        have HB := hid hb
        have hF3 : Hid (∀ W gg, Below w.heap.size w W → W.heap[gg]? = some (.cells #[.float .f64 x.1.1, .float .f64 x.1.2, .float .f64 x.2.1] 54 (0, 0)) → Calls Tryz.prog 53 #[.slice (some ⟨gg, 0, none⟩) 3 3] W fun e w' => e = .returned (.string ⟨(floatsW [x.1.1, x.1.2, x.2.1]).toArray⟩) ∧ Below W.heap.size W w') := hid (fun W gg hW hg =>
          floats_w [x.1.1, x.1.2, x.2.1] (by intro y hy; simp at hy; rcases hy with rfl | rfl | rfl; exact hfx.1; exact hfx.2.1; exact hfx.2.2.1) (by simp) (by simp) gg 3 W (V'.out.keep (Keeps.of_below (S := []) hW) h40 (by simp)) (by have := hW.size; omega) (by
            intro j hj
            rw [cell_of_block hg]
            rcases (show j = 0 ∨ j = 1 ∨ j = 2 by simp at hj; omega) with rfl | rfl | rfl <;> rfl))
        have hD3 : Hid (∀ W, Below w.heap.size w W → Calls Tryz.prog 54 #[.int .u8 x.2.2] W fun e w' => e = .returned (.string ⟨(decW x.2.2).toArray⟩) ∧ Below W.heap.size W w') := hid (fun W hW => whole_w _ hfx.2.2.2 W (V'.out.keep (Keeps.of_below (S := []) hW) h40 (by simp)))
        obtain ⟨F, hF⟩ : ∃ F : ByteArray, F = ⟨(floatsW [x.1.1, x.1.2, x.2.1]).toArray⟩ := ⟨_, rfl⟩
        obtain ⟨D, hD⟩ : ∃ D : ByteArray, D = ⟨(decW x.2.2).toArray⟩ := ⟨_, rfl⟩
        have hFl : F.data.toList = floatsW [x.1.1, x.1.2, x.2.1] := by rw [hF]
        have hDl : D.data.toList = decW x.2.2 := by rw [hD]
        have hFs : F.size ≤ 51 := by rw [← size_list, hFl]; exact floatsW_len _
        have hDs : D.size ≤ 4 := by rw [← size_list, hDl]; exact decW_len 3 _ (by have := hfx.2.2.2; omega)
        rw [← hF] at hF3
        rw [← hD] at hD3
        have HF := hid hFl
        have HD := hid hDl
        have k1 : (9223372036854775807 < 7 + F.size) = False := by simp; omega
        have k2 : (9223372036854775807 < 7 + F.size + 1) = False := by simp; omega
        have k3 : (9223372036854775807 < 7 + F.size + 1 + D.size) = False := by simp; omega
        have k4 : (9223372036854775807 < 7 + F.size + 1 + D.size + 1) = False := by simp; omega
        have nvX : some wr.heap.size ≠ (Value.slice a' k cap').ownBlock := fun e => Nat.lt_irrefl _ (own_lt OWR.out _ e.symm)
        clear hcw hce hxx hx htk hb hFl hDl hF hD hFs hDs hfx
        go_wp2_with fail
        go_region_held3 (fun W => W.cell? ⟨wr.heap.size, 0, none⟩ = some (Value.complex .f64 x.1.1 x.1.2) ∧ W.cell? ⟨wr.heap.size, 1, none⟩ = some (Value.float .f64 x.2.1) ∧ W.cell? ⟨wr.heap.size, 2, none⟩ = some (Value.int .u8 x.2.2)) (refine ⟨?_, ?_, ?_⟩ <;> (first | (simp [go_sem]; done) | assumption)) (first | (go_at_call 53; refine (hF3.out _ _ ?_ ?_).mono ?_; (focus (repeat' (first | (with_reducible exact HB.out) | (with_reducible exact HB.out.size) | (with_reducible refine below_plus ?_ ?_ _ _) | (with_reducible refine Below.alloc ?_ ?_ _) | (with_reducible refine Below.drew ?_) | (simp; done) | (simp; omega)))); (focus (first | (simp only [block_drew, block_at]; done) | (simp only [block_drew, block_alloc', block_plus', block_at]; done))); rintro e wq ⟨rfl, hb⟩; obtain ⟨os, dd, rfl⟩ := plus_of_below hb; clear hb) | (go_at_call 54; refine (hD3.out _ ?_).mono ?_; (focus (repeat' (first | (with_reducible exact HB.out) | (with_reducible exact HB.out.size) | (with_reducible refine below_plus ?_ ?_ _ _) | (with_reducible refine Below.alloc ?_ ?_ _) | (with_reducible refine Below.drew ?_) | (simp; done) | (simp; omega)))); rintro e wq ⟨rfl, hb⟩; obtain ⟨os, dd, rfl⟩ := plus_of_below hb; clear hb) | ((refine step_app2 w.heap.size 9 ti _ 1 16 Tryz.underlying69 hti htz hts htb rfl (by omega) (.slice a' k cap') k ((l.take k).map fun x => sV (trLine x)) (by rfl) (by (repeat' (first | (with_reducible exact OWR.out) | (with_reducible apply World.ownsRow.alloc) | (with_reducible apply World.ownsRow.drew) | (with_reducible apply own_plus)))) [.string ({ data := #[116, 114, 97, 99, 101, 114, 32] } ++ F ++ { data := #[32] } ++ D ++ { data := #[10] })] (by refine Exists.intro _ (Exists.intro _ (And.intro rfl (World.news_of_block (cs := #[.string ({ data := #[116, 114, 97, 99, 101, 114, 32] } ++ F ++ { data := #[32] } ++ D ++ { data := #[10] })]) (t := 9) (fr := (0, 0)) ?_))); (first | (simp only [block_drew, block_at]; done) | (simp only [block_drew, block_alloc', block_plus', block_at]; done))) (by rfl) (by simp [Value.oneCell']) (by unfold maxLen; omega) (by omega) (by simp; omega) ?_); intro g1 cp1 wa hown1 hgrow hat hlt; have HG := hid hgrow; have y0 : wa.cell? ⟨wr.heap.size, 0, none⟩ = some (.complex .f64 x.1.1 x.1.2) := hgrow.cell (by simp [go_sem]) nvX; have y1 : wa.cell? ⟨wr.heap.size, 1, none⟩ = some (.float .f64 x.2.1) := hgrow.cell (by simp [go_sem]) nvX; have y2 : wa.cell? ⟨wr.heap.size, 2, none⟩ = some (.int .u8 x.2.2) := hgrow.cell (by simp [go_sem]) nvX; clear hgrow))
        all_goals
          have HBA : Below w.heap.size w wa := by
            refine Below.trans ?_ (own_grow (B0 := w.heap.size) (E := 9) (size := 1) (n := k) (xs := (l.take k).map fun x => sV (trLine x)) ?_ ?_ HG.out)
            · (repeat' (first | (with_reducible exact HB.out) | (with_reducible exact HB.out.size) | (with_reducible refine below_plus ?_ ?_ _ _) | (with_reducible refine Below.alloc ?_ ?_ _) | (with_reducible refine Below.drew ?_) | (simp; done) | (simp; omega)))
            · (repeat' (first | (with_reducible exact OWR.out) | (with_reducible apply World.ownsRow.alloc) | (with_reducible apply World.ownsRow.drew) | (with_reducible apply own_plus)))
            · simp; omega
          have hstr : Value.string ({ data := #[116, 114, 97, 99, 101, 114, 32] } ++ F ++ { data := #[32] } ++ D ++ { data := #[10] }) = sV (trLine x) := by
            refine congrArg Value.string (ba_eq ?_)
            simp only [ba_append]
            rw [HF.out, HD.out]
            simp [trLine, trW, wTracer]
          rw [hstr] at hown1
          go_wp2_with fail
          go_roundw
          case rel => exact ⟨k + 1, _, _, by rfl, rfl, by omega, by rw [HTK.out]; exact hid hown1, HBA⟩
          case measure => simp [intOf]; omega
      · obtain rfl : k = l.length := by omega
        have how := OWR.out
        rw [List.take_of_length_le (Nat.le_refl _), show (l.map fun x => sV (trLine x)) = (l.map trLine).map sV by rw [List.map_map]; rfl] at how
        have hlen2 : (l.map trLine).flatten.length ≤ 1000000 := by
          have h2 : ∀ (q : List Tr), (∀ x ∈ q, x.2.2 < 256) → (q.map trLine).flatten.length ≤ 70 * q.length := by
            intro q
            induction q with
            | nil => intro _; simp
            | cons y q ih =>
              intro hq
              have h3 := ih (fun x hx => hq x (by simp [hx]))
              have h4 := floatsW_len [y.1.1, y.1.2, y.2.1]
              have h5 := decW_len 3 y.2.2 (by have := hq y (by simp); omega)
              simp only [List.map_cons, List.flatten_cons, List.length_append, List.length_cons, Nat.mul_add]
              simp [trLine, wTracer, trW] at h3 h4 h5 ⊢
              omega
          have := h2 l (fun x hx => (hf x hx).2.2.2)
          omega
        have hsv := saved_w w.heap.size l.length kTracers kTracers (by decide) (by decide) _ (l.map trLine) wr (V'.out.keep (Keeps.of_below (S := []) hb) h40 (by simp)) (by omega) how (by simp) hlen2 (by omega)
        rw [show savedW kTracers.data.toList kTracers.data.toList l.length (l.map trLine).flatten = tracersW l by unfold tracersW; rw [List.flatMap_def]; rfl] at hsv
        have HSV := hid hsv
        have HB := hid hb
        clear hsv how hb hlen2
        go_wp2_with fail
        refine HSV.out.mono ?_
        rintro e w2 ⟨rfl, hb2⟩
        have HB2 := hid (HB.out.trans (hb2.mono hsz))
        clear hb2
        go_wp2_with fail
        refine (fit_any (tracersW l) w2).mono ?_
        rintro e w3 ⟨rfl, rfl⟩
        go_wp2_with fail
        go_ret2
        exact ⟨by rw [HQ.out]; rfl, HB2.out⟩
end Go.Proofs.YtnagagcgmfkjjaaGreatDoor
