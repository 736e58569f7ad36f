/- Numbers written one behind the other, of the given program. -/
import Derived.Test.YtnagagcgmfkjjaaGreatDoorT
set_option linter.unusedSimpArgs false
set_option linter.unusedVariables false
namespace Go.Proofs.YtnagagcgmfkjjaaGreatDoor
open Go.RowKit

theorem Tryz.info9 : (Tryz.prog.info? 9).map (fun i => (i.zero, i.size, i.bytes)) = some (some (.string ⟨#[]⟩), 1, 16) := by kernel_rfl
/-- A string value of bytes. -/
def sV (l : By) : Value := .string ⟨l.toArray⟩
theorem own_below {w w' : World} {B0 E size n : Nat} {sv : Value} {xs : List Value} (h : w.ownsRow B0 E size sv n xs) (k : Below w.heap.size w w') : w'.ownsRow B0 E size sv n xs := own_keeps h (Keeps.of_below (S := []) k) (Nat.le_refl _) (by simp)
theorem own_grow {w w' : World} {B0 E size n : Nat} {sv : Value} {xs : List Value} (h : w.ownsRow B0 E size sv n xs) (hB : B0 ≤ w.heap.size) (hg : w.grownBy w' sv.ownBlock) : Below B0 w w' := by
  refine ⟨hg.os, hg.tape, hg.output, hg.size, fun k hk => hg.block k (by omega) (fun e => ?_)⟩
  rcases h.2 with ⟨rfl, -⟩ | ⟨g, cap, cur, rfl, h1, -⟩
  · cases e
  · simp only [Value.ownBlock, Option.some.injEq] at e
    omega
theorem join_floats (l : List Nat) : Lib.join (l.map fun x => hexW 16 (bitsS x)) [32] = floatsW l := by
  unfold Lib.join
  match l with
  | [] => rfl
  | [x] => simp [floatsW, List.intercalate]
  | x :: y :: r =>
    have := join_floats (y :: r)
    unfold Lib.join at this
    rw [floatsW, ← this]
    simp [List.intercalate]
theorem floatsW_len : ∀ l : List Nat, (floatsW l).length ≤ 17 * l.length
  | [] => by simp [floatsW]
  | [x] => by simp [floatsW, hexW_len]
  | x :: y :: r => by
    have := floatsW_len (y :: r)
    simp [floatsW, hexW_len] at this ⊢
    omega
theorem bits_fits {n : Nat} (h : fits n) : fits (bitsS n) := by
  unfold bitsS
  split
  · show (9221120237041090560 : Nat) < 18446744073709551616; omega
  · exact h
set_option maxRecDepth 100000 in
set_option maxHeartbeats 8000000 in
theorem floats_w (l : List Nat) (hl : ∀ x ∈ l, fits x) (h1 : 0 < l.length) (h5 : l.length ≤ 5) (g c : Nat) (w : World) (V : Vars w) (h40 : 8 ≤ w.heap.size) (hc : ∀ j, j < l.length → w.cell? ⟨g, j, none⟩ = some (.float .f64 (l.getD j 0))) :
    Calls Tryz.prog 53 #[.slice (some ⟨g, 0, none⟩) l.length c] w fun e w' => e = .returned (.string ⟨(floatsW l).toArray⟩) ∧ Below w.heap.size w w' := by
  have V' := hid V
  have HC := hid hc
  have hgl := World.block_lt_of_cell? _ _ (hc 0 h1)
  clear V hc
  obtain ⟨Q, hQ⟩ : ∃ Q, Q = floatsW l := ⟨_, rfl⟩
  rw [← hQ]
  have HQ := hid hQ
  clear hQ
  obtain ⟨ti, hti, htz, hts, htb⟩ := info_parts Tryz.info9
  go_enter Tryz.func53, Tryz.ntmps53
  go_wp2_with fail
  go_loopw [3, 8] (fun t3 t8 wr => ∃ (k : Nat) (a : Option Addr) (cap : Nat), t8 = .int .i64 k ∧ t3 = .slice a k cap ∧ k ≤ l.length ∧ Hid (wr.ownsRow w.heap.size 9 1 (.slice a k cap) k ((l.take k).map fun x => sV (hexW 16 (bitsS x)))) ∧ Below w.heap.size w wr) (fun _ t8 _ => l.length - (intOf t8).toNat)
  case atStart => exact ⟨0, none, 0, rfl, rfl, Nat.zero_le _, hid (own_nil _ _ _ _), Below.refl _ _⟩
  case round =>
    obtain ⟨k, a, cap, rfl, rfl, hk, OWN, hb⟩ := hrel
    have hsz := hb.size
    by_cases hkn : k < l.length
    · have hx : l[k]? = some l[k] := List.getElem?_eq_getElem hkn
      have hf := hl l[k] (List.getElem_mem hkn)
      have hck := HC.out k hkn
      have hgd : l.getD k 0 = l[k] := by rw [List.getD_eq_getElem?_getD, hx]; rfl
      rw [hgd] at hck
      have htk : (l.take (k + 1)).map (fun x => sV (hexW 16 (bitsS x))) = (l.take k).map (fun x => sV (hexW 16 (bitsS x))) ++ [sV (hexW 16 (bitsS l[k]))] := by
        rw [List.take_succ_eq_append_getElem hkn, List.map_append]; rfl
      obtain ⟨x, hxx⟩ : ∃ x, x = l[k] := ⟨_, rfl⟩
      rw [← hxx] at hf hck htk
      have hcw : wr.cell? ⟨g, k, none⟩ = some (.float .f64 x) := ((Keeps.of_below (S := []) hb).cell (q := ⟨g, k, none⟩) hgl (by simp)).trans hck
      have HTK := hid htk
      have hVr := V'.out.keep (Keeps.of_below (S := []) hb) h40 (by simp)
      have HB := hid hb
      clear hx hgd hxx hck htk hb
      go_wp2_with (go_at_call 76; ((with_reducible refine (bits_any _ _).mono ?_); rintro e w' ⟨rfl, rfl⟩))
      refine (sixteen_w (bitsS x) (bits_fits hf) _ hVr (by omega)).mono ?_
      rintro e w1 ⟨rfl, hb1⟩
      have OWN1 := hid (own_below OWN.out hb1)
      have hs1 := hb1.size
      have HB1 := hid (HB.out.trans (hb1.mono hsz))
      clear hb1
      go_wp2_with ((at_builtin; refine wpList_append_lies _ (by rfl) _ _ _ (by rfl) w.heap.size 9 ti _ 1 16 Tryz.underlying69 hti htz hts htb rfl (by omega) _ k ((l.take k).map fun x => sV (hexW 16 (bitsS x))) (by rfl) (OWN1.out.alloc _) ⟨w1.heap.size, 0, none⟩ 1 1 [sV (hexW 16 (bitsS x))] (by rfl) (by rfl) (World.news_of_block (cs := #[sV (hexW 16 (bitsS x))]) (t := 9) (fr := (0, 0)) (by simp only [block_at]; rfl)) (by simp [Value.oneCell', sV]) (by omega) (by unfold maxLen; omega) (by omega) (by simp; omega) (w1.heap.size + 1) (by simp) ?_; intro gg cp wa hown1 hgrow hat hlt))
      go_roundw
      case rel => exact ⟨k + 1, _, _, by rfl, rfl, by omega, by rw [HTK.out]; exact hid hown1, (HB1.out.alloc HB1.out.size _).trans (own_grow (OWN1.out.alloc _) (by simp; omega) hgrow)⟩
      case measure => simp [intOf]; omega
    · obtain rfl : k = l.length := by omega
      obtain ⟨a', cap', he, hcells⟩ := own_form OWN.out
      obtain ⟨gg, rfl, hce⟩ := hcells h1
      injection he with he1 he2 he3
      subst he1 he3
      rw [List.take_of_length_le (Nat.le_refl _)] at hce
      have hcell : ∀ (j : Nat) (x : ByteArray), (l.map fun x => (⟨(hexW 16 (bitsS x)).toArray⟩ : ByteArray))[j]? = some x → wr.cell? ⟨gg, 0 + j, none⟩ = some (.string x) := by
        intro j x hj
        have hjl : j < l.length := by
          rcases Nat.lt_or_ge j l.length with h | h
          · exact h
          · rw [List.getElem?_eq_none (by simpa using h)] at hj; cases hj
        rw [Nat.zero_add, hce j (by simpa using hjl)]
        rw [List.getElem?_map] at hj ⊢
        rw [List.getElem?_eq_getElem hjl] at hj ⊢
        simp only [Option.map_some, Option.some.injEq] at hj ⊢
        rw [← hj]
        rfl
      have hcapl : l.length ≤ cap := by
        rcases OWN.out.2 with ⟨h, -⟩ | ⟨g', c', cur', he, -, -, h, -⟩
        · cases h
        · injection he with e1 e2 e3; omega
      have hggl : gg < wr.heap.size := by
        have := hcell 0 _ (List.getElem?_eq_getElem (by simpa using h1))
        exact World.block_lt_of_cell? _ _ this
      have hmm : ((l.map fun x => (⟨(hexW 16 (bitsS x)).toArray⟩ : ByteArray)).map (·.data.toList)) = l.map fun x => hexW 16 (bitsS x) := by
        rw [List.map_map]; rfl
      have hj := Tryz.strings_Join gg 0 cap (l.map fun x => (⟨(hexW 16 (bitsS x)).toArray⟩ : ByteArray)) ⟨#[32]⟩ wr hcell hggl (by simp; omega) (by simpa using hcapl) (by
        rw [hmm, show (⟨#[32]⟩ : ByteArray).data.toList = [32] from rfl, join_floats]
        have := floatsW_len l
        omega)
      rw [hmm, show (⟨#[32]⟩ : ByteArray).data.toList = [32] from rfl, join_floats, List.length_map, ← HQ.out] at hj
      have HJ := hid hj
      clear hj hmm hcell hce
      have HB := hid hb
      clear hb
      go_wp2_with fail
      refine HJ.out.mono ?_
      rintro e w2 ⟨rfl, hb2⟩
      go_wp2_with fail
      go_ret
      exact ⟨rfl, HB.out.trans (hb2.mono hsz)⟩
end Go.Proofs.YtnagagcgmfkjjaaGreatDoor
