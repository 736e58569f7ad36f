/- Numbers written one behind the other, of the given program. A save written, of the given program. A house of one name, whole. A text's sum. Saves of whirls and numbers written, of the given program. A world with more blocks behind it. -/
import Derived.Test.YtmjpfoninpbgiaaGreatDoorD05
import Derived.Lib.AppendIntMem
set_option linter.unusedSimpArgs false
set_option linter.unusedVariables false
namespace Go.Proofs.YtmjpfoninpbgiaaGreatDoor
section
open Go.RowKit


theorem Tryz.info9 : (Tryz.prog.info? 9).map (fun i => (i.zero, i.size, i.bytes)) = some (some (.string ⟨#[]⟩), 1, 16) := by kernel_rfl
/-- A string value of bytes. -/
def sV (l : By) : Value := .string ⟨l.toArray⟩
theorem own_below {w w' : World} {B0 E size n : Nat} {sv : Value} {xs : List Value} (h : w.ownsRow B0 E size sv n xs) (k : Below w.heap.size w w') : w'.ownsRow B0 E size sv n xs := own_keeps h (Keeps.of_below (S := []) k) (Nat.le_refl _) (by simp)
theorem own_grow {w w' : World} {B0 E size n : Nat} {sv : Value} {xs : List Value} (h : w.ownsRow B0 E size sv n xs) (hB : B0 ≤ w.heap.size) (hg : w.grownBy w' sv.ownBlock) : Below B0 w w' := by
  refine ⟨hg.os, hg.tape, hg.output, hg.size, fun k hk => hg.block k (by omega) (fun e => ?_)⟩
  rcases h.2 with ⟨rfl, -⟩ | ⟨g, cap, cur, rfl, h1, -⟩
  · cases e
  · simp only [Value.ownBlock, Option.some.injEq] at e
    omega
theorem join_floats (l : List Nat) : Lib.join (l.map fun x => hexW 16 (bitsS x)) [32] = floatsW l := by
  unfold Lib.join
  match l with
  | [] => rfl
  | [x] => simp [floatsW, List.intercalate]
  | x :: y :: r =>
    have := join_floats (y :: r)
    unfold Lib.join at this
    rw [floatsW, ← this]
    simp [List.intercalate]
theorem floatsW_len : ∀ l : List Nat, (floatsW l).length ≤ 17 * l.length
  | [] => by simp [floatsW]
  | [x] => by simp [floatsW, hexW_len]
  | x :: y :: r => by
    have := floatsW_len (y :: r)
    simp [floatsW, hexW_len] at this ⊢
    omega
theorem bits_fits {n : Nat} (h : fits n) : fits (bitsS n) := by
  unfold bitsS
  split
  · show (9221120237041090560 : Nat) < 18446744073709551616; omega
  · exact h
set_option maxRecDepth 100000 in
set_option maxHeartbeats 8000000 in
theorem floats_w (l : List Nat) (hl : ∀ x ∈ l, fits x) (h1 : 0 < l.length) (h5 : l.length ≤ 5) (g c : Nat) (w : World) (V : Vars w) (h40 : 10 ≤ w.heap.size) (hc : ∀ j, j < l.length → w.cell? ⟨g, j, none⟩ = some (.float .f64 (l.getD j 0))) :
    Calls Tryz.prog 59 #[.slice (some ⟨g, 0, none⟩) l.length c] w fun e w' => e = .returned (.string ⟨(floatsW l).toArray⟩) ∧ Below w.heap.size w w' := by
  have V' := hid V
  have HC := hid hc
  have hgl := World.block_lt_of_cell? _ _ (hc 0 h1)
  clear V hc
  obtain ⟨Q, hQ⟩ : ∃ Q, Q = floatsW l := ⟨_, rfl⟩
  rw [← hQ]
  have HQ := hid hQ
  clear hQ
  obtain ⟨ti, hti, htz, hts, htb⟩ := info_parts Tryz.info9
  go_enter Tryz.func59, Tryz.ntmps59
  go_wp2_with fail
  go_loopw [3, 8] (fun t3 t8 wr => ∃ (k : Nat) (a : Option Addr) (cap : Nat), t8 = .int .i64 k ∧ t3 = .slice a k cap ∧ k ≤ l.length ∧ Hid (wr.ownsRow w.heap.size 9 1 (.slice a k cap) k ((l.take k).map fun x => sV (hexW 16 (bitsS x)))) ∧ Below w.heap.size w wr) (fun _ t8 _ => l.length - (intOf t8).toNat)
  case atStart => exact ⟨0, none, 0, rfl, rfl, Nat.zero_le _, hid (own_nil _ _ _ _), Below.refl _ _⟩
  case round =>
    obtain ⟨k, a, cap, rfl, rfl, hk, OWN, hb⟩ := hrel
    have hsz := hb.size
    by_cases hkn : k < l.length
    · have hx : l[k]? = some l[k] := List.getElem?_eq_getElem hkn
      have hf := hl l[k] (List.getElem_mem hkn)
      have hck := HC.out k hkn
      have hgd : l.getD k 0 = l[k] := by rw [List.getD_eq_getElem?_getD, hx]; rfl
      rw [hgd] at hck
      have htk : (l.take (k + 1)).map (fun x => sV (hexW 16 (bitsS x))) = (l.take k).map (fun x => sV (hexW 16 (bitsS x))) ++ [sV (hexW 16 (bitsS l[k]))] := by
        rw [List.take_succ_eq_append_getElem hkn, List.map_append]; rfl
      obtain ⟨x, hxx⟩ : ∃ x, x = l[k] := ⟨_, rfl⟩
      rw [← hxx] at hf hck htk
      have hcw : wr.cell? ⟨g, k, none⟩ = some (.float .f64 x) := ((Keeps.of_below (S := []) hb).cell (q := ⟨g, k, none⟩) hgl (by simp)).trans hck
      have HTK := hid htk
      have hVr := V'.out.keep (Keeps.of_below (S := []) hb) h40 (by simp)
      have HB := hid hb
      clear hx hgd hxx hck htk hb
      go_wp2_with (go_at_call 98; ((with_reducible refine (bits_any _ _).mono ?_); rintro e w' ⟨rfl, rfl⟩))
      refine (sixteen_w (bitsS x) (bits_fits hf) _ hVr (by omega)).mono ?_
      rintro e w1 ⟨rfl, hb1⟩
      have OWN1 := hid (own_below OWN.out hb1)
      have hs1 := hb1.size
      have HB1 := hid (HB.out.trans (hb1.mono hsz))
      clear hb1
      go_wp2_with ((at_builtin; refine wpList_append_lies _ (by rfl) _ _ _ (by rfl) w.heap.size 9 ti _ 1 16 Tryz.underlying39 hti htz hts htb rfl (by omega) _ k ((l.take k).map fun x => sV (hexW 16 (bitsS x))) (by rfl) (OWN1.out.alloc _) ⟨w1.heap.size, 0, none⟩ 1 1 [sV (hexW 16 (bitsS x))] (by rfl) (by rfl) (World.news_of_block (cs := #[sV (hexW 16 (bitsS x))]) (t := 9) (fr := (0, 0)) (by simp only [block_at]; rfl)) (by simp [Value.oneCell', sV]) (by omega) (by unfold maxLen; omega) (by omega) (by simp; omega) (w1.heap.size + 1) (by simp) ?_; intro gg cp wa hown1 hgrow hat hlt))
      go_roundw
      case rel => exact ⟨k + 1, _, _, by rfl, rfl, by omega, by rw [HTK.out]; exact hid hown1, (HB1.out.alloc HB1.out.size _).trans (own_grow (OWN1.out.alloc _) (by simp; omega) hgrow)⟩
      case measure => simp [intOf]; omega
    · obtain rfl : k = l.length := by omega
      obtain ⟨a', cap', he, hcells⟩ := own_form OWN.out
      obtain ⟨gg, rfl, hce⟩ := hcells h1
      injection he with he1 he2 he3
      subst he1 he3
      rw [List.take_of_length_le (Nat.le_refl _)] at hce
      have hcell : ∀ (j : Nat) (x : ByteArray), (l.map fun x => (⟨(hexW 16 (bitsS x)).toArray⟩ : ByteArray))[j]? = some x → wr.cell? ⟨gg, 0 + j, none⟩ = some (.string x) := by
        intro j x hj
        have hjl : j < l.length := by
          rcases Nat.lt_or_ge j l.length with h | h
          · exact h
          · rw [List.getElem?_eq_none (by simpa using h)] at hj; cases hj
        rw [Nat.zero_add, hce j (by simpa using hjl)]
        rw [List.getElem?_map] at hj ⊢
        rw [List.getElem?_eq_getElem hjl] at hj ⊢
        simp only [Option.map_some, Option.some.injEq] at hj ⊢
        rw [← hj]
        rfl
      have hcapl : l.length ≤ cap := by
        rcases OWN.out.2 with ⟨h, -⟩ | ⟨g', c', cur', he, -, -, h, -⟩
        · cases h
        · injection he with e1 e2 e3; omega
      have hggl : gg < wr.heap.size := by
        have := hcell 0 _ (List.getElem?_eq_getElem (by simpa using h1))
        exact World.block_lt_of_cell? _ _ this
      have hmm : ((l.map fun x => (⟨(hexW 16 (bitsS x)).toArray⟩ : ByteArray)).map (·.data.toList)) = l.map fun x => hexW 16 (bitsS x) := by
        rw [List.map_map]; rfl
      have hj := Tryz.strings_Join gg 0 cap (l.map fun x => (⟨(hexW 16 (bitsS x)).toArray⟩ : ByteArray)) ⟨#[32]⟩ wr hcell hggl (by simp; omega) (by simpa using hcapl) (by
        rw [hmm, show (⟨#[32]⟩ : ByteArray).data.toList = [32] from rfl, join_floats]
        have := floatsW_len l
        omega)
      rw [hmm, show (⟨#[32]⟩ : ByteArray).data.toList = [32] from rfl, join_floats, List.length_map, ← HQ.out] at hj
      have HJ := hid hj
      clear hj hmm hcell hce
      have HB := hid hb
      clear hb
      go_wp2_with fail
      refine HJ.out.mono ?_
      rintro e w2 ⟨rfl, hb2⟩
      go_wp2_with fail
      go_ret
      exact ⟨rfl, HB.out.trans (hb2.mono hsz)⟩
end
section
open Go.RowKit


theorem sumS_fits (l : By) : fits (sumS l) := by
  rw [sumS_eq]; exact sum_lt l
theorem decW_eq (n : Nat) : decW n = Lib.decDigits n := by
  induction n using Nat.strongRecOn with
  | ind n ih =>
    rw [decW, Lib.decDigits]
    by_cases h : n < 10
    · simp [h]
    · simp [h, ih (n / 10) (by omega)]
theorem itoa_w (n : Nat) (hn : n < 1000000) (w : World) (V : Vars w) :
    Calls Tryz.prog 31 #[.int .i64 n] w fun e w' => e = .returned (.string ⟨(decW n).toArray⟩) ∧ Below w.heap.size w w' := by
  refine (Tryz.strconv_Itoa n (by omega) (by omega) w V.tabIs).mono ?_
  rintro e w' ⟨rfl, k, os, rfl⟩
  refine ⟨?_, Lib.below_grow _ _ (Nat.le_refl _) _ _⟩
  rw [decW_eq]
  have : ¬ ((n : Int) < 0) := by omega
  simp [Lib.itoa, this]
set_option maxRecDepth 100000 in
theorem whole_w (n : Nat) (hn : n < 256) (w : World) (V : Vars w) :
    Calls Tryz.prog 58 #[.int .u8 n] w fun e w' => e = .returned (.string ⟨(decW n).toArray⟩) ∧ Below w.heap.size w w' := by
  go_enter Tryz.func58, Tryz.ntmps58
  go_wp2_with fail
  refine (itoa_w n (by omega) _ V).mono ?_
  rintro e w1 ⟨rfl, hb⟩
  go_wp2_with fail
  go_ret
  exact ⟨rfl, hb⟩
theorem decW_len : ∀ (k n : Nat), n < 10 ^ k → (decW n).length ≤ k + 1 := by
  intro k
  induction k with
  | zero => intro n h; rw [decW, if_pos (by omega)]; simp
  | succ k ih =>
    intro n h
    rw [decW]
    split
    · simp
    · have := ih (n / 10) (by rw [Nat.pow_succ] at h; omega)
      simp
      omega
theorem join_flat (l : List By) : Lib.join l [] = l.flatten := by
  unfold Lib.join
  induction l with
  | nil => rfl
  | cons x l ih =>
    cases l with
    | nil => simp [List.intercalate]
    | cons y l =>
      rw [List.flatten_cons, ← ih]
      simp [List.intercalate]
/-- A join of strings that a row holds, at no separator. -/
theorem join_row (B0 n : Nat) (sv : Value) (ls : List By) (w : World) (ho : w.ownsRow B0 9 1 sv n (ls.map sV)) (hn : ls.length = n) (hlen : ls.flatten.length ≤ 1000000) (hnn : n ≤ 70000) :
    Calls Tryz.prog 99 #[sv, .string ⟨#[]⟩] w fun e w' => e = .returned (.string ⟨ls.flatten.toArray⟩) ∧ Below w.heap.size w w' := by
  obtain ⟨a, cap, rfl, hcells⟩ := own_form ho
  by_cases h0 : n = 0
  · subst h0
    have : ls = [] := List.eq_nil_of_length_eq_zero hn
    subst this
    refine (Tryz.strings_Join_none a cap _ w).mono ?_
    rintro e w' ⟨rfl, rfl⟩
    exact ⟨rfl, Below.refl _ _⟩
  · obtain ⟨g, rfl, hce⟩ := hcells (by omega)
    have hcell : ∀ (j : Nat) (x : ByteArray), (ls.map fun x => (⟨x.toArray⟩ : ByteArray))[j]? = some x → w.cell? ⟨g, 0 + j, none⟩ = some (.string x) := by
      intro j x hj
      have hjl : j < ls.length := by
        rcases Nat.lt_or_ge j ls.length with h | h
        · exact h
        · rw [List.getElem?_eq_none (by simpa using h)] at hj; cases hj
      rw [Nat.zero_add, hce j (by rw [List.length_map]; exact hjl)]
      rw [List.getElem?_map] at hj ⊢
      rw [List.getElem?_eq_getElem hjl] at hj ⊢
      simp only [Option.map_some, Option.some.injEq] at hj ⊢
      rw [← hj]
      rfl
    have hcapl : ls.length ≤ cap := by
      rcases ho.2 with ⟨h, -⟩ | ⟨g', c', cur', he, -, -, h, -⟩
      · cases h
      · injection he with e1 e2 e3; omega
    have hgl : g < w.heap.size := by
      have := hcell 0 _ (List.getElem?_eq_getElem (by rw [List.length_map]; omega))
      exact World.block_lt_of_cell? _ _ this
    have hmm : ((ls.map fun x => (⟨x.toArray⟩ : ByteArray)).map (·.data.toList)) = ls := by
      rw [List.map_map]; exact List.map_id' ls
    have hj := Tryz.strings_Join g 0 cap (ls.map fun x => (⟨x.toArray⟩ : ByteArray)) ⟨#[]⟩ w hcell hgl (by simp; omega) (by simpa using hcapl) (by
      rw [hmm, show (⟨#[]⟩ : ByteArray).data.toList = [] from rfl, join_flat]
      omega)
    rw [hmm, show (⟨#[]⟩ : ByteArray).data.toList = [] from rfl, join_flat, List.length_map, hn] at hj
    exact hj
set_option maxRecDepth 100000 in
set_option maxHeartbeats 8000000 in
theorem saved_w (B0 n : Nat) (kind word : ByteArray) (hk : kind.size ≤ 20) (hw : word.size ≤ 20) (sv : Value) (ls : List By) (w : World) (V : Vars w) (h40 : 10 ≤ w.heap.size) (ho : w.ownsRow B0 9 1 sv n (ls.map sV)) (hn : ls.length = n) (hlen : ls.flatten.length ≤ 1000000) (hnn : n ≤ 70000) :
    Calls Tryz.prog 60 #[.string kind, .string word, sv] w fun e w' => e = .returned (.string ⟨(savedW kind.data.toList word.data.toList n ls.flatten).toArray⟩) ∧ Below w.heap.size w w' := by
  obtain ⟨D, hD⟩ : ∃ D : ByteArray, D = ⟨(decW n).toArray⟩ := ⟨_, rfl⟩
  obtain ⟨J, hJ⟩ : ∃ J : ByteArray, J = ⟨ls.flatten.toArray⟩ := ⟨_, rfl⟩
  have hDl : D.data.toList = decW n := by rw [hD]
  have hJl : J.data.toList = ls.flatten := by rw [hJ]
  have hDs : D.size ≤ 20 := by
    rw [← size_list, hDl]
    have := decW_len 6 n (by omega)
    omega
  have hJs : J.size ≤ 1000000 := by rw [← size_list, hJl]; exact hlen
  have hi := fun w1 V1 => itoa_w n (by omega) w1 V1
  have hj := fun w1 (h : Below w.heap.size w w1) => join_row B0 n sv ls w1 (own_below ho h) hn hlen hnn
  rw [← hD] at hi
  rw [← hJ] at hj
  obtain ⟨a, cap, rfl, -⟩ := own_form ho
  have V' := hid V
  have HI := hid hi
  have HJ := hid hj
  have HJL := hid hJl
  have HDL := hid hDl
  clear V ho hD hJ hi hj hJl hDl
  have k1 : (9223372036854775807 < 5 + kind.size) = False := by simp; omega
  have k2 : (9223372036854775807 < 5 + kind.size + 3) = False := by simp; omega
  have k3 : (9223372036854775807 < 5 + kind.size + 3 + word.size) = False := by simp; omega
  have k4 : (9223372036854775807 < 5 + kind.size + 3 + word.size + 1) = False := by simp; omega
  have k5 : (9223372036854775807 < 5 + kind.size + 3 + word.size + 1 + D.size) = False := by simp; omega
  have k6 : (9223372036854775807 < 5 + kind.size + 3 + word.size + 1 + D.size + 1) = False := by simp; omega
  have k7 : (9223372036854775807 < 5 + kind.size + 3 + word.size + 1 + D.size + 1 + J.size) = False := by simp; omega
  go_enter Tryz.func60, Tryz.ntmps60
  go_wp2_with fail
  refine (HI.out w V'.out).mono ?_
  rintro e w1 ⟨rfl, hb1⟩
  have HB1 := hid hb1
  clear hb1
  go_wp2_with fail
  refine (HJ.out w1 HB1.out).mono ?_
  rintro e w2 ⟨rfl, hb2⟩
  have HB2 := hid (HB1.out.trans (hb2.mono HB1.out.size))
  clear hb2
  obtain ⟨S, hS⟩ : ∃ S : ByteArray, S = ({ data := #[101, 100, 100, 121, 32] } ++ kind ++ { data := #[32, 49, 10] } ++ word ++ { data := #[32] } ++ D ++ { data := #[10] } ++ J) := ⟨_, rfl⟩
  have hSl : S.data.toList = [101, 100, 100, 121, 32] ++ kind.data.toList ++ [32, 49, 10] ++ word.data.toList ++ [32] ++ decW n ++ [10] ++ ls.flatten := by
    rw [hS, ← HDL.out, ← HJL.out]
    simp only [ba_append]
  have hSs : S.size ≤ 1000100 := by
    rw [hS]
    simp only [ByteArray.size_append]
    show 5 + kind.size + 3 + word.size + 1 + D.size + 1 + J.size ≤ _
    omega
  have hSum := fun w1 => sum_any S (by omega) w1
  rw [hSl] at hSum
  rw [hS] at hSum
  obtain ⟨Z, hZ⟩ : ∃ Z, Z = sumS ([101, 100, 100, 121, 32] ++ kind.data.toList ++ [32, 49, 10] ++ word.data.toList ++ [32] ++ decW n ++ [10] ++ ls.flatten) := ⟨_, rfl⟩
  have hZf : fits Z := by rw [hZ]; exact sumS_fits _
  rw [← hZ] at hSum
  have HZ := hid hZ
  have HSUM := hid hSum
  have HSL := hid hSl
  have HSS := hid hS
  have m1 : (9223372036854775807 < 5 + kind.size + 3 + word.size + 1 + D.size + 1 + J.size + 4) = False := by simp; omega
  have h16 := fun w1 (h : Below w.heap.size w w1) => sixteen_w Z hZf w1 (V'.out.keep (Keeps.of_below (S := []) h) h40 (by simp)) (by have := h.size; omega)
  obtain ⟨X, hX⟩ : ∃ X : ByteArray, X = ⟨(hexW 16 Z).toArray⟩ := ⟨_, rfl⟩
  rw [← hX] at h16
  have hXl : X.data.toList = hexW 16 Z := by rw [hX]
  have hXs : X.size = 16 := by rw [← size_list, hXl, hexW_len]
  have m2 : (9223372036854775807 < 5 + kind.size + 3 + word.size + 1 + D.size + 1 + J.size + 4 + X.size) = False := by simp; omega
  have m3 : (9223372036854775807 < 5 + kind.size + 3 + word.size + 1 + D.size + 1 + J.size + 4 + X.size + 1) = False := by simp; omega
  have H16 := hid h16
  have HX := hid hXl
  clear hSum hSl hS h16 hX hXs hXl hZ hZf
  go_wp2_with fail
  refine (HSUM.out w2).mono ?_
  rintro e w3 ⟨rfl, hb3⟩
  have HB3 := hid (HB2.out.trans (hb3.mono HB2.out.size))
  clear hb3
  go_wp2_with fail
  refine (H16.out w3 HB3.out).mono ?_
  rintro e w4 ⟨rfl, hb4⟩
  have HB4 := hid (HB3.out.trans (hb4.mono HB3.out.size))
  clear hb4
  go_wp2_with fail
  go_ret
  refine ⟨congrArg Ending.returned (congrArg Value.string (ba_eq ?_)), HB4.out⟩
  simp only [ba_append]
  rw [HX.out, HDL.out, HJL.out]
  have e : savedW kind.data.toList word.data.toList n ls.flatten = ([101, 100, 100, 121, 32] ++ kind.data.toList ++ [32, 49, 10] ++ word.data.toList ++ [32] ++ decW n ++ [10] ++ ls.flatten) ++ [115, 117, 109, 32] ++ hexW 16 Z ++ [10] := by unfold savedW; rw [HZ.out]
  rw [e]
end
section
open Go.RowKit
open Go.Sort
open Go.Maps Go.ChangeMaps
/-- 'm[k]' without a second result. -/
theorem wpList_lookup_own {H : Type} {P : Program} (w : World) {ops : Array Oper} {rest : List Oper} {o : Oper} {a : Act} {Q : Exit → Act → World → Prop} (hg : o.guard = none) (m x : Operand) (t : TypeId) (hop : o.op = Op.lookup t m x false)
    (k e : TypeId) (K : Keyed P k) (ht : P.underlying t = some (.map k e)) (R : Value → Option (DataW H × List MemPlace)) {z : Value} (hz : (zeroValue e).run P w = .ok z w) (zd : DataW H) (zp : List MemPlace) (hzd : R z = some (zd, zp)) (b n : Nat) (D : DataW H)
    (hm : a.eval m = .map (some b)) (hown : w.ownsMap P k R b n D) (key : Value) (kl : Lit) (hx : a.eval x = key) (hkey : keyOf P k key = some kl)
    (hK : ∀ v ps, R v = some (D.atKey kl zd, ps) → wpList P ops Q rest (a.put o.dst v) w) :
    wpList P ops Q (o :: rest) a w := by
  refine wpList_plain hg fun K' hK' => ?_
  obtain ⟨v, ps, hrun, hv⟩ := hown.lookup K ht hz hzd hkey
  unfold Oper.wp
  simp [execOp, hop, hm, hx, hrun, Result.andThen]
  exact hK' _ _ (hK v ps hv)
theorem one_name {D : DataW Unit} {ss : List (List UInt8)} {nm : ByteArray} {w : World} {B : Nat} {v : Value} (hp : ss.Perm (strKeys D)) (hk : strKeys D = [nm.data.toList]) (ho : w.ownsRow B 9 1 v ss.length ((ss.mergeSort (fun x y => decide (x ≤ y))).map encStr)) : ∃ g cap : Nat, v = .slice (some ⟨g, 0, none⟩) 1 cap ∧ w.cell? ⟨g, 0, none⟩ = some (.string nm) ∧ B ≤ g := by
  rw [hk] at hp
  obtain rfl := List.perm_singleton.1 hp
  obtain ⟨h1, h2⟩ := ho
  rcases h2 with ⟨-, h⟩ | ⟨g, cap, cur, rfl, hb, hg, hc, hm, hs, ht⟩
  · cases h
  · refine ⟨g, cap, rfl, ?_, hb⟩
    rw [cell_of_block hg]
    have e : (cur.toList.take 1)[0]? = some (.string nm) := by
      have := congrArg (fun l : List Value => l[0]?) ht
      simp [encStr] at this ⊢
      exact this
    rw [List.getElem?_take] at e
    simpa using e
theorem info29z : (Tryz.prog.info? 29).map (fun i => (i.zero, i.size, i.bytes)) = some (some (.agg #[.slice none 0 0]), 1, 24) := by kernel_rfl
theorem und70z : Tryz.prog.underlying 70 = some (.slice 29) := by kernel_rfl
theorem own_bk {w : World} {B T g : Nat} {x : Value} (h : w.ownsRow B T 1 (.slice (some ⟨g, 0, none⟩) 1 1) 1 [x]) : BkC w g [x] T := by
  obtain ⟨h1, h2⟩ := h
  rcases h2 with ⟨h, -⟩ | ⟨g', cap, cur, he, hb, hg, hc, hm, hs, ht⟩
  · cases h
  · simp only [Value.slice.injEq, Option.some.injEq, Addr.mk.injEq] at he
    obtain ⟨⟨rfl, -, -⟩, -, rfl⟩ := he
    have e : cur.toList = [x] := by
      rw [← ht, List.take_of_length_le]
      rw [Array.length_toList, hs]
      exact Nat.le_refl _
    refine ⟨?_⟩
    show _ = some (Obj.cells [x].toArray T (0, 0))
    rw [hg, ← e]
theorem made29 : (madeCells (Value.agg #[.slice none 0 0]).cells (1 * 1)).toList = [.slice none 0 0] := by kernel_rfl
theorem kp0_grown {w w' : World} (h : w.grownBy w' none) : Kp0 w w' := ⟨⟨h.os, h.tape, h.output, h.size, fun k hk => h.block k hk (by simp)⟩⟩
set_option synthInstance.maxHeartbeats 2000000 in
set_option synthInstance.maxSize 100000 in
set_option maxRecDepth 100000 in
set_option maxHeartbeats 16000000 in
theorem hAll {w : World} {h m n : Nat} {nm : ByteArray} {D : DataW Unit} {F : List UInt8 → Option (Nat × Nat)} {s : Nat × Nat} [hh : BkC w h [.bool true, .int .i32 0, .int .u32 0, .map (some m)] 51] (hm : Mp w m n D F) (hn : n < 1000000) (hsz : nm.size ≤ 70000) (hk : strKeys D = [nm.data.toList]) (hF : F nm.data.toList = some s) : Calls Tryz.prog 29 #[.pointer (some ⟨h, 0, none⟩)] w fun e w' => ∃ gn capn gf g cap : Nat, e = .returned (.tuple #[.slice (some ⟨gn, 0, none⟩) 1 capn, .slice (some ⟨gf, 0, none⟩) 1 1]) ∧ w'.cell? ⟨gn, 0, none⟩ = some (.string nm) ∧ w'.cell? ⟨gf, 0, none⟩ = some (.slice (some ⟨g, 0, none⟩) 1 cap) ∧ FsC w' g s ∧ Kp0 w w' := by
  have hz0 := hm.own.size_le
  have hz1 : Hid (Maps.size D ≤ maxLen) := hid (by unfold maxLen; omega)
  have hz2 : Hid (Maps.size D * 16 ≤ 140737488355328) := hid (by omega)
  have hkey : keyOf Tryz.prog 9 (.string nm) = some (.string nm.data.toList) := Go.WideMaps.keyOf_string_mk und9z (by unfold maxLen; omega)
  clear hz0 hn
  haveI nhm : NeN h m := ⟨by
    obtain ⟨es, c, hmm⟩ := hm.heap
    rintro rfl
    rw [hh.out] at hmm
    cases hmm⟩
  have ck := hh.out.cell (i := 1) rfl
  have ck3 := hh.out.cell (i := 3) rfl
  have fk := hh.out.free 1
  have hm2 : Hid (Mp (w.setCell ⟨h, 1, none⟩ (.int .i32 1)) m n D F) := hid (hm.lock hh.out 1 (.int .i32 1))
  have HK := hid hk
  have HF := hid hF
  clear hk hF hsz
  go_enter_defers Tryz.func29, Tryz.ntmps29
  obtain ⟨ti, hti, htz, hts, htb⟩ := info_parts info29z
  go_wp2_with (first | (go_at_call 25; (with_reducible refine Calls.mono (Go.MuLone.lock_free Tryz.muLib ⟨h, 1, none⟩ w ck fk) ?_); rintro e wl ⟨rfl, rfl⟩) | (go_at_call 28; (with_reducible refine Calls.mono (callsIn_wide.1 (Tryz.maps_Keys_28 (some m) _)) ?_); rintro e wl ⟨rfl, rfl⟩) | (go_at_call 27; have hc := callsIn_wide.1 (Tryz.slices_Sorted_keys_27_28 m n D Rp (w.setCell ⟨h, 1, none⟩ (.int .i32 1)) hm2.out.own hz1.out hz2.out); rw [World.size_setCell] at hc; (with_reducible refine Calls.mono hc ?_); clear hc; rintro e ws ⟨v, ss, rfl, hp1, hp2, hp3, hp4⟩; haveI hks : Kp0 ((w.setCell ⟨h, 1, none⟩ (.int .i32 1)).alloc (.cells #[.map (some m)] 49)) ws := ⟨hp4⟩; obtain ⟨gn, capn, rfl, hcn, hgn⟩ := one_name hp1 HK.out hp2) | (at_make; go_loud (refine wpList_make_full _ rfl _ _ 70 rfl ws.heap.size 29 ti _ 1 und70z hti htz hts .i64 .i64 _ _ 1 rfl rfl rfl rfl (by rw [htb]; omega) (by unfold maxLen; omega) (Nat.le_refl _) ?_); intro w2 hown hgrow; rw [made29] at hown; haveI ib2 := own_bk hown; haveI ik2 := kp0_grown hgrow))
  go_loopw [26] (fun s26 wx => ∃ j : Int, s26 = .int .i64 j ∧ (j = 0 ∧ BkC wx ws.heap.size [.slice none 0 0] 29 ∧ Kp0 w2 wx ∨ j = 1 ∧ ∃ g c : Nat, BkC wx ws.heap.size [.slice (some ⟨g, 0, none⟩) 1 c] 29 ∧ FsC wx g s ∧ UpW w2 g ∧ KpS w2 [ws.heap.size] wx)) (fun s26 _ => 1 - (intOf s26).toNat)
  case atStart => exact ⟨0, rfl, .inl ⟨rfl, inferInstance, ⟨Gr.out⟩⟩⟩
  case round =>
    obtain ⟨j, rfl, hj⟩ := hrel
    rcases hj with ⟨rfl, ib2, ik⟩ | ⟨rfl, g, c, ib2, if2, iu, ik⟩
    · have hgl : gn < ws.heap.size := World.block_lt_of_cell? _ _ hcn
      have e0 := (World.cell?_of_block (w := ws) ((Gr.out (v := ws) (W := wr)).block gn hgl)).trans hcn
      have hm3 : Hid (Mp wr m n D F) := hid (hm2.out.below (Gr.out (v := w.setCell ⟨h, 1, none⟩ (.int .i32 1)) (W := wr)))
      have c3 : wr.cell? ⟨h, 3, none⟩ = some (.map (some m)) := (inferInstance : BkC wr h _ 51).out.cell rfl
      go_wp2_with (first | (at_lookup; refine wpList_lookup_own _ rfl _ _ 49 rfl 9 79 keyed9 und49z Rp (zero79 _) (.lit (.int .i64 (-1))) [] rfl m n D rfl hm3.out.own _ _ rfl hkey ?_; intro vv ps hv; obtain ⟨b, gb, capb, ha, hbk, hfs⟩ := hm3.out.lies _ _ HF.out; rw [ha] at hv; obtain rfl := rp_inv hv; clear hv ha; haveI ib : BkC wr b _ 29 := ⟨hbk⟩; haveI ig : FsC wr gb s := ⟨hfs⟩; have cb := hbk.cell (i := 0) rfl; clear hbk hfs) | (go_at_call 21; (with_reducible refine Calls.mono (hTwin (s := s)) ?_); rintro e wt ⟨g1, cap1, rfl, ht1, ht2, ht3⟩; have cz := (inferInstance : BkC wt ws.heap.size _ 29).out.cell (i := 0) rfl; have fz := (inferInstance : BkC wt ws.heap.size _ 29).out.free 0))
      go_round
      case rel => exact ⟨1, rfl, .inr ⟨rfl, g1, cap1, inferInstance, inferInstance, ⟨Up.out⟩, ⟨GS.out⟩⟩⟩
      case measure => simp [intOf]
    · have hgl : gn < ws.heap.size := World.block_lt_of_cell? _ _ hcn
      go_wp2_with fail
      refine leaves_cons (f := 26) (args := #[.pointer (some ⟨h, 1, none⟩)]) (by simp) (by simp [go_sem]) ?_
      haveI : Up w.heap.size ws.heap.size := ⟨(GS.out (v := w) (S := [h]) (W := ws)).size⟩
      have hh1 : BkC wr h [.bool true, .int .i32 1, .int .u32 0, .map (some m)] 51 := inferInstance
      have hlt : h < w.heap.size := hh.out.lt
      have hgn2 : gn ≠ h := by
        have := hgn
        simp only [World.size_alloc, World.size_setCell] at this
        omega
      have e0 := (World.cell?_of_block (w := ws) ((GS.out (v := ws) (S := []) (W := wr)).block gn hgl (by simp))).trans hcn
      refine (Go.MuLone.unlock_deferred Tryz.muLib ⟨h, 1, none⟩ .returning _ ?_ ?_).mono ?_
      · exact hh1.out.cell rfl
      · exact hh1.out.free 1
      rintro e u' w'' ⟨rfl, rfl, rfl⟩
      refine ⟨_, results_tmp2 rfl _ _ _, gn, capn, ws.heap.size, g, c, rfl, (World.cell?_of_block (block_ne _ _ _ _ _ hgn2)).trans e0, (inferInstance : BkC _ ws.heap.size _ 29).out.cell rfl, inferInstance, ⟨keeps_same (h := h) (L := [.bool true, .int .i32 0, .int .u32 0, .map (some m)]) (T := 51) GS.out hh.out (inferInstance : BkC _ h _ 51).out⟩⟩
end
section
open Go.RowKit
set_option synthInstance.maxHeartbeats 2000000 in
set_option synthInstance.maxSize 100000 in
set_option maxRecDepth 100000 in
set_option maxHeartbeats 16000000 in
theorem hSum {s : ByteArray} {w : World} (hs : s.size ≤ 1000000) (V : Vars w) (h10 : 10 ≤ w.heap.size) : Calls Tryz.prog 33 #[.string s] w fun e w' => e = .returned (.string ⟨(hexW 16 (sumS s.data.toList)).toArray⟩) ∧ Below w.heap.size w w' := by
  rw [sumS_eq]
  obtain ⟨L, hL⟩ : ∃ L, L = s.data.toList := ⟨_, rfl⟩
  rw [← hL]
  have HS := hid hL.symm
  have HSZ := hid (bytes_len s L hL.symm)
  obtain ⟨Z, hZ⟩ : ∃ Z, Z = L.foldl sumF 14695981039346656037 := ⟨_, rfl⟩
  have hn : fits Z := by rw [hZ]; exact sum_lt L
  rw [← hZ]
  obtain ⟨h1, h2⟩ := hexM_pad 16 Z (by omega) (by have e : (16 : Nat) ^ 16 = 18446744073709551616 := by decide
                                                  rw [e]; exact hn)
  have hf := format_94 Z hn w V h10
  rw [← h2]
  obtain ⟨m, hm⟩ : ∃ m, m = hexM Z := ⟨_, rfl⟩
  rw [← hm] at h1 hf ⊢
  obtain ⟨t, ht⟩ : ∃ t : ByteArray, t = ⟨m.toArray⟩ := ⟨_, rfl⟩
  rw [← ht] at hf
  have hts : t.size = m.length := by rw [ht]; simp [ByteArray.size]
  have hts16 : t.size ≤ 16 := by omega
  have hrep := fun w1 => Tryz.strings_Repeat ⟨#[48]⟩ (16 - t.size) w1 (by omega) (by show 1 * _ ≤ _; omega)
  obtain ⟨r, hr⟩ : ∃ r : ByteArray, r = ⟨(Lib.repeatL [48] (16 - t.size)).toArray⟩ := ⟨_, rfl⟩
  have hrl : r.data.toList = Lib.repeatL [48] (16 - t.size) := by rw [hr]
  rw [← hr] at hrep
  have hrs : r.size = 16 - t.size := by rw [← size_list, hrl, repeatL_one]; simp
  have hcat : (9223372036854775807 < r.size + t.size) = False := by simp; omega
  have HRL := hid hrl
  have hsub : (16 : Int) - (t.size : Int) = ((16 - t.size : Nat) : Int) := by omega
  have HT := hid ht
  have HTS := hid hts
  have HF := hid hf
  have HREP := hid hrep
  have HZ := hid hZ
  have hs7 : (s.size : Int) ≤ 1000000 := by omega
  clear ht hts hm hf h1 hr hrl hrs hrep hZ hL
  go_enter Tryz.func33, Tryz.ntmps33
  go_wp2_with fail
  go_loop [3, 8] (fun vn vi => ∃ (k a : Nat), vn = .int .u64 a ∧ vi = .int .i64 k ∧ k ≤ s.size ∧ Hid (a = (L.take k).foldl sumF 14695981039346656037)) (fun _ vi => s.size - (intOf vi).toNat)
  case atStart => exact ⟨0, 14695981039346656037, rfl, rfl, by omega, hid (by rw [List.take_zero, List.foldl_nil])⟩
  case round =>
    obtain ⟨k, a, rfl, rfl, hk, hha⟩ := hrel
    by_cases hlt : k < s.size
    · have hkl : k < L.length := by rw [← HSZ.out]; exact hlt
      obtain ⟨n, hn2⟩ : ∃ n, n = (s[k]'hlt).toNat := ⟨_, rfl⟩
      have hnl : n = L[k].toNat := by rw [hn2, byte0 s L HS.out k hkl hlt]
      have hcn := hn2.symm
      have hltI : (k : Int) < (s.size : Int) := by omega
      have h0 : (0 : Int) ≤ (k : Int) := by omega
      have ha := sum_lt (L.take k)
      rw [← hha.out] at ha
      have hst : L.take (k + 1) = L.take k ++ [L[k]] := List.take_succ_eq_append_getElem hkl
      generalize hcx : L[k] = c at hnl hst
      have hc256 := c.toNat_lt
      have hx := u64_xor_nat a n ha (by omega)
      have hm : IntKind.u64.wrap (((a ^^^ n : Nat) : Int) * 1099511628211) = ((sumF a c : Nat) : Int) := by
        rw [IntKind.wrap_u64, hnl]
        unfold sumF
        omega
      have HN : Hid (sumF a c = (L.take (k + 1)).foldl sumF 14695981039346656037) := by
        rw [hst, List.foldl_append, ← hha.out, List.foldl_cons, List.foldl_nil]; exact hid (Eq.refl (sumF a c))
      have hw : IntKind.u64.wrap (n : Int) = (n : Int) := by rw [IntKind.wrap_u64]; omega
      clear hst hcx hha hn2 hnl hc256
      go_wp2_with fail
      go_round
      case rel => exact ⟨k + 1, sumF a c, rfl, by first | rfl | go_num, by omega, HN⟩
      case measure => simp [intOf]; omega
    · obtain rfl : k = s.size := by omega
      have hf := hha.out
      rw [List.take_of_length_le (by rw [← HSZ.out]; exact Nat.le_refl _), ← HZ.out] at hf
      obtain rfl := hf
      have e9 : ¬ ((s.size : Int) < (s.size : Int)) := by omega
      clear hha HZ
      go_wp2_with fail
      refine HF.out.mono ?_
      rintro e w1 ⟨rfl, hb1⟩
      have HB1 := hid hb1
      clear hb1
      go_wp2_with fail
      refine (HREP.out w1).mono ?_
      rintro e w2 ⟨rfl, hb2⟩
      have HB2 := hid hb2
      clear hb2
      go_wp2_with fail
      go_ret
      refine ⟨?_, HB1.out.trans (HB2.out.mono HB1.out.size)⟩
      refine congrArg Ending.returned (congrArg Value.string ?_)
      refine ba_eq ?_
      rw [ba_append, HRL.out, repeatL_one, HT.out]
      simp [ByteArray.size]
end
section
open Go.RowKit


def flowO (l : List El) : By × Int := if flowChk l = 0 then (flowW l, 0) else ([], flowChk l)
def elLine (x : El) : By := wElement ++ [32] ++ elW x ++ [10]
theorem flat_len {α : Type} (f : α → By) (m : Nat) (h : ∀ x, (f x).length ≤ m) (l : List α) : (l.map f).flatten.length ≤ m * l.length := by
  induction l with
  | nil => simp
  | cons x l ih =>
    have := h x
    simp only [List.map_cons, List.flatten_cons, List.length_append, List.length_cons, Nat.mul_add]
    omega
end
section
open Go.RowKit

/-- The world w with the blocks 'os' behind its own, and another count of draws. -/
def _root_.Go.World.plus (w : World) (os : Array Obj) (d : Nat) : World := { w with heap := w.heap ++ os, drawn := d }
theorem plus_of_below {w w' : World} (h : Below w.heap.size w w') : ∃ os d, w' = w.plus os d := by
  refine ⟨w'.heap.extract w.heap.size w'.heap.size, w'.drawn, ?_⟩
  have hh : w'.heap = w.heap ++ w'.heap.extract w.heap.size w'.heap.size := by
    apply Array.ext_getElem?
    intro k
    have hs := h.size
    by_cases hk : k < w.heap.size
    · rw [h.block k hk, Array.getElem?_append_left hk]
    · rw [Array.getElem?_append_right (by omega), Array.getElem?_extract]
      split
      · congr 1; omega
      · rw [Array.getElem?_eq_none]; omega
  cases w with
  | mk heap tape drawn os output =>
    cases w' with
    | mk heap' tape' drawn' os' output' =>
      have h1 : tape' = tape := h.tape
      have h2 : os' = os := h.os
      have h3 : output' = output := h.output
      subst h1 h2 h3
      simp only [World.plus] at hh ⊢
      rw [← hh]
@[simp] theorem size_plus (w : World) (os : Array Obj) (d : Nat) : (w.plus os d).heap.size = w.heap.size + os.size := by simp [World.plus]
theorem block_plus (w : World) (os : Array Obj) (d : Nat) (k : Nat) (h : k < w.heap.size) : (w.plus os d).heap[k]? = w.heap[k]? := by
  simp only [World.plus]
  rw [Array.getElem?_append_left h]
instance hasSize_plus (w : World) (os : Array Obj) (d s : Nat) [h : HasSize w s] : HasSize (w.plus os d) (s + os.size) := ⟨by rw [size_plus, h.eq]⟩
instance (priority := 500) has_plus (w : World) (os : Array Obj) (d n : Nat) [h : Has w n] : Has (w.plus os d) n := ⟨by rw [size_plus]; exact Nat.lt_of_lt_of_le h.lt (Nat.le_add_right _ _)⟩
theorem cell_plus0 (w : World) (os : Array Obj) (d n i : Nat) (h : n < w.heap.size) : (w.plus os d).cell? ⟨n, i, none⟩ = w.cell? ⟨n, i, none⟩ := by
  simp only [World.cell?, block_plus w os d n h]
theorem frozen_plus0 (w : World) (os : Array Obj) (d n i : Nat) (h : n < w.heap.size) : (w.plus os d).frozen? ⟨n, i, none⟩ = w.frozen? ⟨n, i, none⟩ := by
  simp only [World.frozen?, block_plus w os d n h]
theorem setCell_plus0 (w : World) (os : Array Obj) (d n i : Nat) (v : Value) (h : n < w.heap.size) :
    (w.plus os d).setCell ⟨n, i, none⟩ v = (w.setCell ⟨n, i, none⟩ v).plus os d := by
  unfold World.setCell World.plus
  congr 1
  apply Array.ext_getElem?
  intro k
  simp only [Array.getElem?_modify, Array.getElem?_append, Array.size_modify]
  by_cases hk : k < w.heap.size
  · simp [hk]
  · have : n ≠ k := by omega
    simp [hk, this]
section
variable (w : World) (n i : Nat) [hn : Has w n]
@[go_sem] theorem cell_plus (os : Array Obj) (d : Nat) : (w.plus os d).cell? ⟨n, i, none⟩ = w.cell? ⟨n, i, none⟩ := cell_plus0 w os d n i hn.lt
@[go_sem] theorem frozen_plus (os : Array Obj) (d : Nat) : (w.plus os d).frozen? ⟨n, i, none⟩ = w.frozen? ⟨n, i, none⟩ := frozen_plus0 w os d n i hn.lt
@[go_sem] theorem setCell_plus (os : Array Obj) (d : Nat) (v : Value) : (w.plus os d).setCell ⟨n, i, none⟩ v = (w.setCell ⟨n, i, none⟩ v).plus os d := setCell_plus0 w os d n i v hn.lt
@[go_sem] theorem shape_plus (os : Array Obj) (d : Nat) : (w.plus os d).shape? n = w.shape? n := by
  simp only [World.shape?, block_plus w os d n hn.lt]
end
@[go_sem] theorem plus_drew (w : World) (os : Array Obj) (d : Nat) : w.drew.plus os d = w.plus os d := rfl
theorem below_plus {B : Nat} {a w : World} (h : Below B a w) (hB : B ≤ w.heap.size) (os : Array Obj) (d : Nat) : Below B a (w.plus os d) :=
  h.trans ⟨rfl, rfl, rfl, by simp, fun k hk => block_plus _ _ _ _ (by omega)⟩
theorem block_plus' (w : World) (os : Array Obj) (d n : Nat) [h : Has w n] : (w.plus os d).heap[n]? = w.heap[n]? := block_plus w os d n h.lt
theorem own_plus {w : World} {B0 E size n : Nat} {sv : Value} {xs : List Value} (h : w.ownsRow B0 E size sv n xs) (os : Array Obj) (d : Nat) : (w.plus os d).ownsRow B0 E size sv n xs :=
  own_below h (below_plus (Below.refl _ _) (Nat.le_refl _) os d)
theorem own_lt {w : World} {B0 E size n : Nat} {sv : Value} {xs : List Value} (h : w.ownsRow B0 E size sv n xs) : ∀ g, sv.ownBlock = some g → g < w.heap.size := by
  intro g e
  rcases h.2 with ⟨rfl, -⟩ | ⟨k, cap, cur, rfl, -, hk, -⟩
  · cases e
  · simp only [Value.ownBlock, Option.some.injEq] at e
    subst e
    exact lt_of_block hk
theorem step_app2 {ops : Array Oper} {dst : Option Nat} {ty : TypeId} {ps : String} {af : Array Edge} {a : Act} {w : World} {K : Act → World → Prop} {Q : Exit → Act → World → Prop} {E : Prop} {s x : Operand} {t : TypeId}
    (base : Nat) (e : TypeId) (i : TypeInfo) (z : Value) (size bytes : Nat) (ht : Tryz.prog.underlying t = some (.slice e)) (hi : Tryz.prog.info? e = some i) (hz : i.zero = some z)
    (hsize : i.size = size) (hby : i.bytes = bytes) (hzs : z.cells.size = size) (hsz : 0 < size) (v : Value) (n : Nat) (xs : List Value) (hs : a.eval s = v) (hown : w.ownsRow base e size v n xs)
    (news : List Value) (hx : ∃ ad c, a.eval x = .slice (some ad) 1 c ∧ ∀ j u, news[j]? = some u → w.cell? (ad.add j) = some u) (hl : news.length = size) (h1 : ∀ u ∈ news, u.oneCell' = true)
    (h63 : n + 1 ≤ maxLen) (hbytes : (n + 1) * bytes ≤ 140737488355328) (hbase : base ≤ w.heap.size)
    (h : ∀ g cap w', w'.ownsRow base e size (.slice (some ⟨g, 0, none⟩) (n + 1) cap) (n + 1) (xs ++ news) → w.grownBy w' v.ownBlock → (v.ownBlock = some g ∨ g = w.heap.size) → g < w'.heap.size → K (a.put dst (.slice (some ⟨g, 0, none⟩) (n + 1) cap)) w') :
    if Region.wanted { dst := dst, op := .call { callee := .builtin .append, args := #[s, x], argTypes := #[t, t] }, type := ty, pos := ps, after := af, guard := none } (yielded ops a.tmps) = true then Oper.wp Tryz.prog { dst := dst, op := .call { callee := .builtin .append, args := #[s, x], argTypes := #[t, t] }, type := ty, pos := ps, after := af, guard := none } a w K Q else E :=
  step_app rfl s x t rfl base e i z size bytes ht hi hz hsize hby hzs hsz v n xs hs hown news hx hl h1 h63 hbytes hbase h
end
end Go.Proofs.YtmjpfoninpbgiaaGreatDoor
