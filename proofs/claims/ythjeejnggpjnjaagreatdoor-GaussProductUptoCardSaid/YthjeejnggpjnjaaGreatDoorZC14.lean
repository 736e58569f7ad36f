/- A part: AS, AT, AU, AV, AW. -/
import Derived.Test.YthjeejnggpjnjaaGreatDoorZC13
set_option linter.unusedSimpArgs false
set_option linter.unusedVariables false
set_option maxRecDepth 100000
set_option maxHeartbeats 16000000
set_option synthInstance.maxHeartbeats 2000000
set_option synthInstance.maxSize 100000
namespace Go.Proofs.YthjeejnggpjnjaaGreatDoor
open Go.RowKit
def TellC (M : Nat) : Prop := ∀ (least : Int) (va : Value) (w : World), -1099511627776 ≤ least - (bl M : Int) → least ≤ 549755813888 → (M ≠ 0 ∨ 0 < least) → Wd w va (words M) →
 Calls Tryz.prog 227 #[va, .int .i64 10, .int .i64 least] w fun e w' => ∃ v, e = .returned v ∧ Ob w' w.heap.size v (padf least.toNat M) ∧ Below w.heap.size w w'
theorem bl_div {M k : Nat} (h : M / 10 ^ k ≠ 0) : bl (M / 10 ^ k) + k ≤ bl M := by
 have h1 := bl_le h; have h2 := bl_lt M; have h3 : M / 10 ^ k * 10 ^ k ≤ M := Nat.div_mul_le_self _ _; have h4 : 2 ^ k ≤ 10 ^ k := Nat.pow_le_pow_left (by decide) _
 have h5 : 2 ^ (bl (M / 10 ^ k) - 1) * 2 ^ k ≤ M / 10 ^ k * 10 ^ k := Nat.mul_le_mul h1 h4; rw [← Nat.pow_add] at h5; have h6 := (Nat.pow_lt_pow_iff_right (by decide : 1 < 2)).1 (Nat.lt_of_le_of_lt h5 (Nat.lt_of_le_of_lt h3 h2))
 have h7 : 0 < bl (M / 10 ^ k) := by
  rcases Nat.eq_zero_or_pos (bl (M / 10 ^ k)) with h8 | h8
  · have h9 := bl_lt (M / 10 ^ k); rw [h8, Nat.pow_zero] at h9; exact absurd (Nat.lt_one_iff.1 h9) h
  · exact h8
 omega
theorem half_pow {M k : Nat} (h40 : 40 < (words M).length) (hk : k = (words M).length / 2 * 8) : 10 ^ k ≤ M := by
 have h0 : M ≠ 0 := fun e => by rw [e, words_0] at h40; simp at h40
 have h1 := words_top h0; have h2 : 10 ^ k ≤ 16 ^ k := Nat.pow_le_pow_left (by decide) _
 rw [show (16 : Nat) = 2 ^ 4 from rfl, ← Nat.pow_mul] at h2
 rw [show (4294967296 : Nat) = 2 ^ 32 from rfl, ← Nat.pow_mul] at h1
 refine Nat.le_trans h2 (Nat.le_trans (Nat.pow_le_pow_right (by decide) ?_) h1)
 omega
theorem bl10 : bl 10 = 4 := by
 have := bl_of (x := 10) (k := 3) (by decide) (by decide)
 exact this
theorem Ob.low {w : World} {B B' : Nat} {v : Value} {L : List UInt8} (h : Ob w B v L) (hB : B' ≤ B) : Ob w B' v L := by
 rcases h.2 with h0 | ⟨q, cap, cur, he, hq, hb, h1⟩
 · exact ⟨h.1, .inl h0⟩
 · exact ⟨h.1, .inr ⟨q, cap, cur, he, by omega, hb, h1⟩⟩
theorem u8_news {w : World} {g : Nat} {L : List UInt8} (h : ∀ (i : Nat) (c : UInt8), L[i]? = some c → w.cell? ⟨g, i, none⟩ = some (.int .u8 c.toNat)) (j : Nat) (u : Value) (hu : (u8s L)[j]? = some u) : w.cell? ((⟨g, 0, none⟩ : Addr).add j) = some u := by
 have hadd : (⟨g, 0, none⟩ : Addr).add j = ⟨g, j, none⟩ := by unfold Addr.add; split <;> simp_all
 rw [hadd]; rw [u8s_get] at hu; cases hc : L[j]? with
 | none => rw [hc] at hu; cases hu
 | some c => rw [hc] at hu; rw [h j c hc]; exact hu
theorem btell_long (M : Nat) (h40 : 40 < (words M).length) (hl : (words M).length ≤ 67108864) (k : Nat) (hk : k = (words M).length / 2 * 8) (I1 : TellC (M / 10 ^ k)) (I2 : TellC (M % 10 ^ k)) : TellC M := by
 intro least va w hl1 hl2 hor ha; have hp := half_pow h40 hk; obtain ⟨hi, hhi⟩ : ∃ hi, hi = M / 10 ^ k := ⟨_, rfl⟩; obtain ⟨lo, hlo⟩ : ∃ lo, lo = M % 10 ^ k := ⟨_, rfl⟩
 have hi0 : M / 10 ^ k ≠ 0 := by
  have := Nat.div_pos hp (pow10_pos k); omega
 have hlt : M % 10 ^ k < 10 ^ k := Nat.mod_lt _ (pow10_pos k); have sp := padf_split least.toNat k M hi0; have bd := bl_div hi0; have pl := padf_len k _ hlt
 have blo : bl (M % 10 ^ k) ≤ 549755813888 := by
  have h1 := bl_lenW (M % 10 ^ k); have h2 := len_mono (Nat.mod_le M (10 ^ k)); omega
 have lp := pow10_len k; have DV := hid (fun v w' (h : Below w.heap.size w w') (h1 : Wd w' v (words (10 ^ k))) => bdiv va v M (10 ^ k) w' (ha.below h) h1 (by omega) (by omega) (by have := pow10_pos k; omega))
 have ph : (padf (least - (k : Int)).toNat (M / 10 ^ k)).length ≤ 1099511627776 := by
  unfold padf; have h1 := figs_words (M / 10 ^ k); have h2 := len_mono (Nat.div_le_self M (10 ^ k)); rw [List.length_append, List.length_replicate]; omega
 rw [← hhi] at I1 sp bd DV hi0 ph; rw [← hlo] at I2 sp pl blo DV; have I1' := hid (fun va' w' (h : Below w.heap.size w w') (q : Wd w' va' (words hi)) => I1 (least - (k : Int)) va' w' (by omega) (by omega) (.inl hi0) q)
 have I2' := hid (fun va' w' (h : Below w.heap.size w w') (q : Wd w' va' (words lo)) => I2 (k : Int) va' w' (by omega) (by omega) (.inr (by omega)) q)
 rw [Int.toNat_natCast] at I2'; obtain ⟨Lh, hLh⟩ : ∃ Lh, Lh = (least - (k : Int)).toNat := ⟨_, rfl⟩; rw [← hLh] at I1' ph; clear I1 I2; have I1 := I1'; have I2 := I2'; clear I1' I2'; have hp4 : 0 < (padf k lo).length := by omega
 have pl2 : (padf k lo).length ≤ 1099511627776 := by omega
 have hkB : k ≤ 1073741824 := by omega
 have LN0 := len32 10 (by decide)
 unfold Len32 at LN0; rw [bl10] at LN0; have LN : ∀ w, Calls Tryz.prog 214 #[.int .u32 10] w fun e w' => e = .returned (.int .i64 4) ∧ w = w' := LN0
 clear LN0
 have SP : Hid (padf least.toNat M = padf Lh hi ++ padf k lo) := hid (by
  rw [sp, hLh, show (least - (k : Int)).toNat = least.toNat - k by omega])
 clear hLh; obtain ⟨aa, ca, rfl, -, -⟩ := ha.form; obtain ⟨h2, hh2⟩ : ∃ h2, h2 = (words M).length / 2 := ⟨_, rfl⟩; have e1 : ((words M).length : Int) / 2 = (h2 : Int) := by omega
 have e2 : (h2 : Int) * 32 / 4 = (k : Int) := by omega
 have h40I : (40 : Int) < ((words M).length : Int) := by omega
 obtain ⟨ti, hti, htz, hts, htb⟩ := info_parts info5; have hlk : -1099511627776 ≤ least - (k : Int) := by omega
 have hlk2 : -1099511627776 ≤ least := by omega
 clear hhi hlo hi0 hlt sp bd pl blo lp hk hh2 hp ha hor hl1; go_enter Tryz.func227, Tryz.ntmps227; go_wp2_with (first | (go_at_call 214; (with_reducible refine (LN _).mono ?_); rintro e w' ⟨rfl, hw⟩; obtain rfl := hw) | (go_at_call 242; (with_reducible refine (bpower k hkB _).mono ?_); rintro e w1 ⟨v1, rfl, h1, hb1⟩) | (go_at_call 177; (with_reducible refine (DV.out _ _ hb1 h1).mono ?_); rintro e w2 ⟨vq, vr, rfl, hq2, hr2, -, -, hw2⟩; have hb2 := Below.trans hb1 (below_low hw2 hb1.size)) | (go_at_call 227; (with_reducible refine (I1.out _ _ hb2 hq2).mono ?_); rintro e w3 ⟨v3, rfl, ho3, hw3⟩; have hb3 := Below.trans hb2 (below_low hw3 hb2.size); have hr3 := hr2.below hw3) | (go_at_call 227; (with_reducible refine (I2.out _ _ hb3 hr3).mono ?_); rintro e w4 ⟨v4, rfl, ho4, hw4⟩; have hb4 := Below.trans hb3 (below_low hw4 hb3.size); obtain ⟨g4, c4, rfl, hg4, hc4, hl4, hcell4⟩ := ho4.form hp4; have O3 := hid ((ho3.low hb2.size).below hw4); have N4 : Hid (∀ (j : Nat) (u : Value), (u8s (padf k lo))[j]? = some u → w4.cell? ((⟨g4, 0, none⟩ : Addr).add j) = some u) := hid (u8_news hcell4)) | (at_builtin; refine wpList_append_lies _ (by rfl) _ _ _ (by rfl) w.heap.size 5 ti _ 1 1 Tryz.underlying232 hti htz hts htb rfl (by omega) v3 (padf Lh hi).length (u8s (padf Lh hi)) (by rfl) O3.out ⟨g4, 0, none⟩ (padf k lo).length c4 (u8s (padf k lo)) (by rfl) (by rw [u8s_len, Nat.mul_one]) N4.out (by intro u hu; unfold u8s at hu; obtain ⟨c, -, rfl⟩ := List.mem_map.1 hu; rfl) hp4 (by unfold maxLen; omega) (by omega) hb4.size _ rfl ?_; intro g5 c5 w5 hown hgrow hat hlt))
 go_ret
 refine ⟨.slice (some ⟨g5, 0, none⟩) ((padf Lh hi).length + (padf k lo).length) c5, rfl, ?_, Below.trans hb4 (own_grow O3.out hb4.size hgrow)⟩
 rw [SP.out]; unfold Ob; rw [List.length_append]; unfold u8s at hown ⊢; rw [List.map_append]; exact hown
theorem btell (M : Nat) (hl : (words M).length ≤ 67108864) : TellC M := by
 induction M using Nat.strongRecOn with
 | _ M ih =>
   by_cases h : (words M).length ≤ 40
   · intro least va w hl1 hl2 hor ha; exact btell_short M least (by omega) hl2 hor h va w ha
   · have h40 : 40 < (words M).length := by omega
     have hp := half_pow h40 rfl; have h1 : 1 < 10 ^ ((words M).length / 2 * 8) := Nat.one_lt_pow (by omega) (by decide)
     have hM : 0 < M := by omega
     refine btell_long M h40 (by omega) _ rfl (ih _ (Nat.div_lt_self hM h1) ?_) (ih _ (Nat.lt_of_lt_of_le (Nat.mod_lt _ (by omega)) hp) ?_)
     · exact Nat.le_trans (len_mono (Nat.div_le_self _ _)) hl
     · exact Nat.le_trans (len_mono (Nat.mod_le _ _)) hl
def itext (n : Int) : List UInt8 := if n < 0 then 45 :: padf 1 n.natAbs else padf 1 n.natAbs
theorem padf1 {n : Nat} (h : n ≠ 0) : padf 1 n = figs n := by
 have h1 : (figs n).length ≠ 0 := fun e => h (by have := figs_len (n := n) (k := 0); omega)
 unfold padf; rw [show 1 - (figs n).length = 0 by omega]
 rfl
theorem bytes_strO (w : World) (B n : Nat) (a : Option Addr) (cap : Nat) (L : List UInt8) (h : Ob w B (.slice a n cap) L) (h0 : 0 < L.length) :
 (convert 232 9 (.slice a n cap)).run Tryz.prog w = .ok (.string ⟨L.toArray⟩) w := by
 obtain ⟨g, c, he, -, -, -, hce⟩ := h.form h0; simp only [Value.slice.injEq] at he; obtain ⟨rfl, rfl, rfl⟩ := he; rw [run_convert_bytes_string w 232 9 5 _ L.length cap Tryz.underlying232 Tryz.underlying5 Tryz.underlying9]
 have hl := run_loadCells_list (P := Tryz.prog) (w := w) ⟨g, 0, none⟩ ((L.map fun c : UInt8 => (c.toNat : Int)).map (Value.int .u8)) (fun j v hv => by
  rw [List.map_map] at hv; exact u8_news hce j v hv)
 rw [List.length_map, List.length_map] at hl; rw [run_bytesToString w ⟨g, 0, none⟩ L.length cap (L.map fun c : UInt8 => (c.toNat : Int)) hl, push_bytes]
 simp
theorem str45a (L : List UInt8) : (({ data := #[45] } : ByteArray) ++ ⟨L.toArray⟩) = (⟨(45 :: L).toArray⟩ : ByteArray) := by
 apply ByteArray.ext
 simp
theorem str45 (L : List UInt8) : Ending.returned (.string (({ data := #[45] } : ByteArray) ++ ⟨L.toArray⟩)) = Ending.returned (.string ⟨(45 :: L).toArray⟩) := by rw [str45a]
theorem btext (gx : Nat) (N : Int) (w : World) (hx : Ia w gx N) (hl : (words N.natAbs).length ≤ 67108864) :
 Calls Tryz.prog 187 #[.pointer (some ⟨gx, 0, none⟩), .int .i64 10] w fun e w' => e = .returned (.string ⟨(itext N).toArray⟩) ∧ Below w.heap.size w w' := by
 obtain ⟨vx, R, T, bx, wx⟩ := hx; obtain ⟨ax, cx, rfl, -, -⟩ := wx.form; have hbl := bl_lenW N.natAbs; have TL := hid (fun w' (h : Below w.heap.size w w') => btell N.natAbs hl 1 _ w' (by omega) (by omega) (.inr (by decide)) (wx.below h))
 have PL : 0 < (padf (1 : Int).toNat N.natAbs).length := by
  show 0 < (padf 1 N.natAbs).length
  by_cases h : N.natAbs = 0
  · rw [h]; unfold padf; rw [figs_0]; simp
  · rw [padf1 h]; have := figs_len (n := N.natAbs) (k := 0); omega
 have PB : (padf (1 : Int).toNat N.natAbs).length ≤ 1099511627776 := by
  show (padf 1 N.natAbs).length ≤ _
  unfold padf; have := figs_words N.natAbs; rw [List.length_append, List.length_replicate]; omega
 have hadd := fun w => run_string_add_sum (P := Tryz.prog) (w := w) (⟨#[45]⟩ : ByteArray) ⟨(padf (1 : Int).toNat N.natAbs).toArray⟩ (by
  show 1 + (padf (1 : Int).toNat N.natAbs).toArray.size ≤ _
  rw [List.size_toArray]; omega)
 have BX := hid bx; have x0 := bx.cell (i := 0) rfl; have x1 := bx.cell (i := 1) rfl; haveI : Has w gx := ⟨bx.lt⟩; obtain ⟨R1, hR1⟩ : ∃ R1, R1 = itext N := ⟨_, rfl⟩; rw [← hR1]; by_cases hneg : N < 0
 · have RV : Hid (R1 = 45 :: padf (1 : Int).toNat N.natAbs) := hid (by rw [hR1, itext, if_pos hneg]; rfl)
   rw [decide_eq_true hneg] at x0 BX; generalize padf (1 : Int).toNat N.natAbs = L1 at *; clear hR1 hneg bx wx hbl; go_enter Tryz.func187, Tryz.ntmps187; go_wp2_with (go_at_call 227; (with_reducible refine (TL.out _ (Below.refl _ _)).mono ?_); rintro e w1 ⟨v1, rfl, ho1, hb1⟩; obtain ⟨a1, c1, rfl, -⟩ := ho1.formA; have hcv := bytes_strO w1 _ _ a1 c1 _ ho1 PL; have xs0 := (BX.out.below hb1).cell (i := 0) rfl; haveI : Has w1 gx := ⟨(BX.out.below hb1).lt⟩)
   go_ret
   exact ⟨by rw [RV.out]; exact str45 _, hb1⟩
 · have RV : Hid (R1 = padf (1 : Int).toNat N.natAbs) := hid (by rw [hR1, itext, if_neg hneg]; rfl)
   rw [decide_eq_false hneg] at x0 BX; generalize padf (1 : Int).toNat N.natAbs = L1 at *; clear hR1 hneg bx wx hbl; go_enter Tryz.func187, Tryz.ntmps187; go_wp2_with (go_at_call 227; (with_reducible refine (TL.out _ (Below.refl _ _)).mono ?_); rintro e w1 ⟨v1, rfl, ho1, hb1⟩; obtain ⟨a1, c1, rfl, -⟩ := ho1.formA; have hcv := bytes_strO w1 _ _ a1 c1 _ ho1 PL; have xs0 := (BX.out.below hb1).cell (i := 0) rfl; haveI : Has w1 gx := ⟨(BX.out.below hb1).lt⟩)
   go_ret
   exact ⟨by rw [RV.out]; rfl, hb1⟩
theorem bstring (gx : Nat) (N : Int) (w : World) (hx : Ia w gx N) (hl : (words N.natAbs).length ≤ 67108864) :
 Calls Tryz.prog 136 #[.pointer (some ⟨gx, 0, none⟩)] w fun e w' => e = .returned (.string ⟨(itext N).toArray⟩) ∧ Below w.heap.size w w' := by
 have TX := hid (btext gx N w hx hl); generalize itext N = R1 at *; clear hx hl; go_enter Tryz.func136, Tryz.ntmps136; go_wp2_with (go_at_call 187; (with_reducible refine TX.out.mono ?_); rintro e w1 ⟨rfl, hb1⟩)
 go_ret
 exact ⟨rfl, hb1⟩
def minusB (s : ByteArray) : Bool := decide (s.data.toList.head? = some 45)
def afterS (s : ByteArray) : ByteArray := if minusB s then s.extract 1 s.size else s
theorem extract_one (s : ByteArray) (c : UInt8) (L : List UInt8) (h : s.data.toList = c :: L) : s.extract 0 1 = ⟨#[c]⟩ := by
 apply ByteArray.ext
 rw [← Array.toList_inj, Lib.extract_data, h]; rfl
theorem after_list (s : ByteArray) : (afterS s).data.toList = if minusB s then s.data.toList.drop 1 else s.data.toList := by
 unfold afterS
 split
 · rw [Lib.extract_to_end]
 · rfl
theorem size_pos_of {s : ByteArray} {c : UInt8} {L : List UInt8} (h : s.data.toList = c :: L) : 0 < s.size := by rw [bytes_len s _ h]; simp
theorem bhas (s : ByteArray) (hs : s.size ≤ maxLen) (w : World) : Calls Tryz.prog 228 #[.string s, .string ⟨#[45]⟩] w fun e w' => e = .returned (.bool (minusB s)) ∧ w' = w := by
 unfold maxLen at hs; cases hL : s.data.toList with
 | nil =>
   have hz : s.size = 0 := by rw [bytes_len s _ hL]; rfl
   have hr : minusB s = false := by unfold minusB; rw [hL]; rfl
   rw [hr]; clear hr hL; go_enter Tryz.func228, Tryz.ntmps228; go_wp2_with fail
   go_ret
   exact ⟨rfl, rfl⟩
 | cons c L =>
   have hz := size_pos_of hL; have hx := extract_one s c L hL; have hr : minusB s = decide (c = 45) := by unfold minusB; rw [hL]; simp
   have hI : (1 : Int) ≤ (s.size : Int) := by omega
   rw [hr]; by_cases hc : c = 45
   · subst hc; have hq : ((s.extract 0 1).toList == [45]) = true := by rw [hx, ByteArray.toList_eq]; rfl
     clear hr hL hx; go_enter Tryz.func228, Tryz.ntmps228; go_wp2_with fail
     go_ret
     exact ⟨rfl, rfl⟩
   · have hq : ((s.extract 0 1).toList == [45]) = false := by
      rw [hx, ByteArray.toList_eq]; exact beq_eq_false_iff_ne.2 (fun e => hc (by simpa using e))
     rw [decide_eq_false hc]; clear hr hL hx hc; go_enter Tryz.func228, Tryz.ntmps228; go_wp2_with fail
     go_ret
     exact ⟨rfl, rfl⟩
def digB (L : List UInt8) : Bool := L.all (fun c => decide (48 ≤ c.toNat) && decide (c.toNat ≤ 57)) && (decide (L ≠ []) && (decide (L.head? ≠ some 48) || decide (L = [48])))
theorem digB_bad {L : List UInt8} {i : Nat} (hi : i < L.length) (h : ¬ (48 ≤ L[i].toNat ∧ L[i].toNat ≤ 57)) : digB L = false := by
 have : L.all (fun c => decide (48 ≤ c.toNat) && decide (c.toNat ≤ 57)) = false := by
  rw [List.all_eq_false]; exact ⟨L[i], List.getElem_mem hi, by simpa using h⟩
 unfold digB; rw [this]; rfl
theorem digB_good {L : List UInt8} (h : ∀ i (hi : i < L.length), 48 ≤ L[i].toNat ∧ L[i].toNat ≤ 57) : digB L = (decide (L ≠ []) && (decide (L.head? ≠ some 48) || decide (L = [48]))) := by
 have : L.all (fun c => decide (48 ≤ c.toNat) && decide (c.toNat ≤ 57)) = true := by
  rw [List.all_eq_true]; intro c hc; obtain ⟨i, hi, rfl⟩ := List.getElem_of_mem hc; have := h i hi; simp [this]
 unfold digB; rw [this, Bool.true_and]
theorem digB_isdig {L : List UInt8} (h : digB L = true) : isdig L ∧ L ≠ [] ∧ (L.head? ≠ some 48 ∨ L = [48]) := by
 unfold digB at h; rw [Bool.and_eq_true, Bool.and_eq_true, List.all_eq_true] at h; obtain ⟨h1, h2, h3⟩ := h; refine ⟨fun c hc => by have := h1 c hc; simpa using this, of_decide_eq_true h2, ?_⟩
 rw [Bool.or_eq_true] at h3; exact h3.imp of_decide_eq_true of_decide_eq_true
theorem byte0 (s : ByteArray) (L : List UInt8) (h : s.data.toList = L) (k : Nat) (hk : k < L.length) (hj : k < s.size) : s[k] = L[k] := by
 have := byte_at s [] L h k hk (by show 0 + k < _; omega)
 simpa using this
theorem btrim1 (s : ByteArray) (hs : s.size ≤ maxLen) (w : World) : Calls Tryz.prog 189 #[.string s, .string ⟨#[45]⟩] w fun e w' => e = .returned (.string (afterS s)) ∧ w' = w := by
 have hs2 := hs; unfold maxLen at hs2; by_cases hm : minusB s = true
 · have hz : 1 ≤ s.size := by
    unfold minusB at hm; have := of_decide_eq_true hm; cases hL : s.data.toList with
    | nil => rw [hL] at this; cases this
    | cons c L => exact size_pos_of hL
   have ha : afterS s = s.extract 1 s.size := by unfold afterS; rw [if_pos hm]
   have hzI : (1 : Int) ≤ (s.size : Int) := by omega
   rw [ha]
   try rw [hm]
   have HM := hid hm; clear ha hm; go_enter Tryz.func189, Tryz.ntmps189; go_wp2_with (go_at_call 228; (with_reducible refine (bhas s hs _).mono ?_); rintro e w' ⟨rfl, hw⟩; obtain rfl := hw.symm; rw [HM.out])
   go_ret
   exact ⟨rfl, rfl⟩
 · have hm : minusB s = false := by simpa using hm
   have ha : afterS s = s := by unfold afterS; rw [hm]; rfl
   rw [ha]
   try rw [hm]
   have HM := hid hm; clear ha hm; go_enter Tryz.func189, Tryz.ntmps189; go_wp2_with (go_at_call 228; (with_reducible refine (bhas s hs _).mono ?_); rintro e w' ⟨rfl, hw⟩; obtain rfl := hw.symm; rw [HM.out])
   go_ret
   exact ⟨rfl, rfl⟩
theorem bcut1 (s : ByteArray) (hs : s.size ≤ maxLen) (w : World) : Calls Tryz.prog 229 #[.string s, .string ⟨#[45]⟩] w fun e w' => e = .returned (.tuple #[.string (afterS s), .bool (minusB s)]) ∧ w' = w := by
 have hs2 := hs; unfold maxLen at hs2; by_cases hm : minusB s = true
 · have hz : 1 ≤ s.size := by
    unfold minusB at hm; have := of_decide_eq_true hm; cases hL : s.data.toList with
    | nil => rw [hL] at this; cases this
    | cons c L => exact size_pos_of hL
   have ha : afterS s = s.extract 1 s.size := by unfold afterS; rw [if_pos hm]
   have hzI : (1 : Int) ≤ (s.size : Int) := by omega
   rw [ha]
   try rw [hm]
   have HM := hid hm; clear ha hm; go_enter Tryz.func229, Tryz.ntmps229; go_wp2_with (go_at_call 228; (with_reducible refine (bhas s hs _).mono ?_); rintro e w' ⟨rfl, hw⟩; obtain rfl := hw.symm; rw [HM.out])
   go_ret2
   exact ⟨rfl, rfl⟩
 · have hm : minusB s = false := by simpa using hm
   have ha : afterS s = s := by unfold afterS; rw [hm]; rfl
   rw [ha]
   try rw [hm]
   have HM := hid hm; clear ha hm; go_enter Tryz.func229, Tryz.ntmps229; go_wp2_with (go_at_call 228; (with_reducible refine (bhas s hs _).mono ?_); rintro e w' ⟨rfl, hw⟩; obtain rfl := hw.symm; rw [HM.out])
   go_ret2
   exact ⟨rfl, rfl⟩
theorem btrim2 (s : ByteArray) (hs : s.size ≤ maxLen) (w : World) : Calls Tryz.prog 138 #[.string s, .string ⟨#[45]⟩] w fun e w' => e = .returned (.string (afterS s)) ∧ w' = w := by
 have A := hid (btrim1 s hs w); generalize afterS s = t at *; go_enter Tryz.func138, Tryz.ntmps138; go_wp2_with (go_at_call 189; (with_reducible refine A.out.mono ?_); rintro e w' ⟨rfl, hw⟩; obtain rfl := hw.symm)
 go_ret
 exact ⟨rfl, rfl⟩
theorem bcut2 (s : ByteArray) (hs : s.size ≤ maxLen) (w : World) : Calls Tryz.prog 190 #[.string s, .string ⟨#[45]⟩] w fun e w' => e = .returned (.tuple #[.string (afterS s), .bool (minusB s)]) ∧ w' = w := by
 have A := hid (bcut1 s hs w); generalize afterS s = t at *; generalize minusB s = m at *; go_enter Tryz.func190, Tryz.ntmps190; go_wp2_with (go_at_call 229; (with_reducible refine A.out.mono ?_); rintro e w' ⟨rfl, hw⟩; obtain rfl := hw.symm)
 go_ret2
 exact ⟨rfl, rfl⟩
theorem blong (s : ByteArray) (hs : s.size ≤ maxLen) (w : World) : Calls Tryz.prog 90 #[.string s] w fun e w' => e = .returned (.int .i64 (afterS s).size) ∧ w' = w := by
 have A := hid (btrim2 s hs w); generalize afterS s = t at *; go_enter Tryz.func90, Tryz.ntmps90; go_wp2_with (go_at_call 138; (with_reducible refine A.out.mono ?_); rintro e w' ⟨rfl, hw⟩; obtain rfl := hw.symm)
 go_ret
 exact ⟨rfl, rfl⟩
theorem bdigits (s : ByteArray) (hs : s.size ≤ maxLen) (w : World) : Calls Tryz.prog 191 #[.string s] w fun e w' => e = .returned (.bool (digB s.data.toList)) ∧ w' = w := by
 unfold maxLen at hs; obtain ⟨L, hL⟩ : ∃ L, L = s.data.toList := ⟨_, rfl⟩; rw [← hL]; have HS := hid hL.symm; have HSZ := hid (bytes_len s L hL.symm); obtain ⟨R, hR⟩ : ∃ R, R = digB L := ⟨_, rfl⟩; rw [← hR]; have HR := hid hR; clear hL hR; rcases hc : L with _ | ⟨c, T⟩
 · have he : s.size = 0 := by rw [HSZ.out, hc]; rfl
   have he2 : s.toList.isEmpty = true := by rw [ByteArray.toList_eq, HS.out, hc]; rfl
   have he3 : s.toList = [] := by rw [ByteArray.toList_eq, HS.out, hc]
   have hr : R = false := by rw [HR.out, hc]; rfl
   subst hr; clear HR HS HSZ hc; go_enter Tryz.func191, Tryz.ntmps191; go_wp2_with fail
   go_loop [6] (fun si => si = .int .i64 0) (fun _ => 0)
   case atStart => exact rfl
   case round =>
    obtain rfl := hrel; go_wp2_with fail
    go_ret
    exact ⟨rfl, rfl⟩
 · have h0 : 0 < s.size := by rw [HSZ.out, hc]; simp
   obtain ⟨n0, hn0⟩ : ∃ n0, n0 = (s[0]'h0).toNat := ⟨_, rfl⟩; have hn0c : n0 = c.toNat := by rw [hn0, byte0 s L HS.out 0 (by rw [hc]; simp) h0]; simp only [hc]; rfl
   have hcn0 := hn0.symm; have he2 : s.toList.isEmpty = false := by rw [ByteArray.toList_eq, HS.out, hc]; rfl
   have he3 : (s.toList == [48]) = decide (L = [48]) := by rw [ByteArray.toList_eq, HS.out, Bool.eq_iff_iff, beq_iff_eq, decide_eq_true_iff]
   have HV : Hid (digB L = (decide (L ≠ []) && (decide (L.head? ≠ some 48) || decide (L = [48]))) → R = (!decide (n0 = 48) || decide (L = [48]))) := hid (fun h => by
    rw [HR.out, h, hc, hn0c]
    have : decide (c.toNat = 48) = decide (c = 48) := by
     rw [Bool.eq_iff_iff, decide_eq_true_iff, decide_eq_true_iff]
     constructor
     · intro h2; rw [← UInt8.toNat_inj]; exact h2
     · intro h2; rw [h2]; rfl
    rw [this, show decide (c :: T ≠ []) = true from by simp, Bool.true_and]
    congr 1
    by_cases h48 : c = 48 <;> simp [h48])
   have HC := hid hc; have hsz1 : (0 : Int) < (s.size : Int) := by omega
   clear hc hn0 hn0c; go_enter Tryz.func191, Tryz.ntmps191; go_wp2_with fail
   go_loop [6] (fun si => ∃ j : Nat, si = .int .i64 j ∧ j ≤ s.size ∧ Hid (∀ i (hi : i < L.length), i < j → 48 ≤ L[i].toNat ∧ L[i].toNat ≤ 57)) (fun si => s.size - (intOf si).toNat)
   case atStart => exact ⟨0, rfl, Nat.zero_le _, hid (fun i hi h => by omega)⟩
   case round =>
    obtain ⟨j, rfl, hj, hG⟩ := hrel; by_cases hlt : j < s.size
    · have hkl : j < L.length := by rw [← HSZ.out]; exact hlt
      obtain ⟨n, hn⟩ : ∃ n, n = (s[j]'hlt).toNat := ⟨_, rfl⟩; have hnl : n = L[j].toNat := by rw [hn, byte0 s L HS.out j hkl hlt]
      have hcn := hn.symm; have hltI : (j : Int) < (s.size : Int) := by omega
      have HB := hid (fun (h : ¬ (48 ≤ n ∧ n ≤ 57)) => HR.out.trans (digB_bad hkl (by rw [← hnl]; exact h)))
      have HG2 : Hid (48 ≤ n ∧ n ≤ 57 → ∀ i (hi : i < L.length), i < j + 1 → 48 ≤ L[i].toNat ∧ L[i].toNat ≤ 57) := hid (fun h i hi hij => by
       rcases Nat.lt_or_eq_of_le (Nat.le_of_lt_succ hij) with h2 | rfl
       · exact hG.out i hi h2
       · rw [← hnl]; exact h)
      clear hn hnl hG; by_cases h1 : n < 48
      · have hr := HB.out (by omega)
        subst hr; have h1I : (n : Int) < 48 := by omega
        go_wp2_with fail
        go_ret
        exact ⟨rfl, rfl⟩
      · have h1I : (48 : Int) ≤ (n : Int) := by omega
        have h1D : decide ((n : Int) < 48) = false := decide_eq_false (by omega)
        by_cases h2 : 57 < n
        · have hr := HB.out (by omega)
          subst hr; have h2I : (57 : Int) < (n : Int) := by omega
          go_wp2_with fail
          go_ret
          exact ⟨rfl, rfl⟩
        · have h2I : (n : Int) ≤ 57 := by omega
          have h2D : decide ((57 : Int) < (n : Int)) = false := decide_eq_false (by omega)
          have NX := hid (HG2.out (by omega))
          go_wp2_with fail
          go_round
          case rel => exact ⟨j + 1, by go_num, by omega, NX⟩
          case measure => simp [intOf]; omega
    · obtain rfl : j = s.size := by omega
      have hr := HR.out.trans (digB_good (fun i hi => hG.out i hi (by rw [HSZ.out]; exact hi)))
      have hr2 := HV.out (HR.out.symm.trans hr); by_cases hz : n0 = 48
      · have hzI : ((n0 : Int) == 48) = true := beq_iff_eq.2 (by omega)
        have hr3 : R = decide (L = [48]) := by rw [hr2, hz]; rfl
        have HR3 := hid hr3; clear hr hr2 hr3 hG; go_wp2_with fail
        all_goals first
         | (exfalso; omega)
         | (go_ret; exact ⟨by rw [HR3.out]; rfl, rfl⟩)
      · have hzI : ((n0 : Int) == 48) = false := beq_eq_false_iff_ne.2 (by omega)
        have hzI2 : ((n0 : Int) != 48) = true := bne_iff_ne.2 (by omega)
        have hzI3 : ¬ ((n0 : Int) = 48) := by omega
        have hr3 : R = true := by rw [hr2, decide_eq_false hz]; rfl
        clear hr hr2 hG; subst hr3; go_wp2_with fail
        all_goals first
         | (exfalso; omega)
         | (go_ret; exact ⟨rfl, rfl⟩)
def textE (s : ByteArray) (den : Bool) : Int := if 16384 < (afterS s).size then 4 else if (digB (afterS s).data.toList && !(minusB s && (den || decide ((afterS s).data.toList = [48]))) && !(den && decide ((afterS s).data.toList = [48]))) = true then 0 else 30
theorem after_le (s : ByteArray) : (afterS s).size ≤ s.size := by
 have h := after_list s; rw [bytes_len _ _ rfl, h, bytes_len s _ rfl]
 split
 · rw [List.length_drop]; omega
 · exact Nat.le_refl _
theorem beq48 (t : ByteArray) : (t.toList == [48]) = decide (t.data.toList = [48]) := by
 rw [ByteArray.toList_eq, Bool.eq_iff_iff, beq_iff_eq, decide_eq_true_iff]
theorem btext139 (s : ByteArray) (den : Bool) (hs : s.size ≤ maxLen) (w : World) : Calls Tryz.prog 139 #[.string s, .bool den] w fun e w' => e = .returned (.int .i64 (textE s den)) ∧ w' = w := by
 have A := hid (bcut2 s hs w); have B := hid (bdigits (afterS s) (Nat.le_trans (after_le s) hs) w); have hsz := Nat.le_trans (after_le s) hs; unfold maxLen at hsz; unfold textE; have hZ := beq48 (afterS s); obtain ⟨Z, hZ2⟩ : ∃ Z, Z = decide ((afterS s).data.toList = [48]) := ⟨_, rfl⟩; rw [← hZ2] at hZ ⊢; clear hZ2; generalize digB (afterS s).data.toList = D at *; generalize afterS s = t at *; generalize minusB s = m at *; by_cases hb : 16384 < t.size
 · rw [if_pos hb]; have hbI : (16384 : Int) < (t.size : Int) := by omega
   clear hb hZ; go_enter Tryz.func139, Tryz.ntmps139; go_wp2_with first | (go_at_call 190; (with_reducible refine A.out.mono ?_); rintro e w' ⟨rfl, hw⟩; obtain rfl := hw.symm) | (go_at_call 191; (with_reducible refine B.out.mono ?_); rintro e w' ⟨rfl, hw⟩; obtain rfl := hw.symm)
   go_ret
   exact ⟨rfl, rfl⟩
 · rw [if_neg hb]; have hbI : (t.size : Int) ≤ 16384 := by omega
   have hbD : decide ((16384 : Int) < (t.size : Int)) = false := decide_eq_false (by omega)
   clear hb; cases D <;> cases m <;> cases den <;> cases Z <;>
   · go_enter Tryz.func139, Tryz.ntmps139; go_wp2_with first | (go_at_call 190; (with_reducible refine A.out.mono ?_); rintro e w' ⟨rfl, hw⟩; obtain rfl := hw.symm) | (go_at_call 191; (with_reducible refine B.out.mono ?_); rintro e w' ⟨rfl, hw⟩; obtain rfl := hw.symm)
     go_ret
     exact ⟨rfl, rfl⟩
def ival (s : ByteArray) : Int := sg (minusB s) (dval (afterS s).data.toList)
def rval (n d : ByteArray) : _root_.Rat := mkRat (ival n) (dval (afterS d).data.toList)
def okT (n d : ByteArray) : Prop := textE n false = 0 ∧ textE d true = 0
theorem textE_ok {s : ByteArray} {b : Bool} (h : textE s b = 0) : (afterS s).size ≤ 16384 ∧ digB (afterS s).data.toList = true ∧ (b = true → minusB s = false ∧ (afterS s).data.toList ≠ [48]) := by
 unfold textE at h
 split at h
 · cases h
 · rename_i h1
   split at h
   · rename_i h2; rw [Bool.and_eq_true, Bool.and_eq_true] at h2; obtain ⟨⟨h3, h4⟩, h5⟩ := h2; refine ⟨by omega, h3, fun hb => ?_⟩
     subst hb
     constructor
     · simpa using h4
     · simpa using h5
   · cases h
theorem dval_ne0 {L : List UInt8} (h : digB L = true) (h2 : L ≠ [48]) : dval L ≠ 0 := by
 obtain ⟨h3, h4, h5⟩ := digB_isdig h; intro e; have h6 : L.head? ≠ some 48 := h5.resolve_right h2; have h7 := figs_dval h3 (fun c hc e => h6 (by rw [hc, e]))
 rw [e, figs_0] at h7; exact h4 h7.symm
theorem text_list {s : ByteArray} (h : minusB s = true) : s.data.toList = ([45] : List UInt8) ++ (afterS s).data.toList := by
 rw [after_list, if_pos h]; unfold minusB at h; cases hL : s.data.toList with
 | nil => rw [hL] at h; simp at h
 | cons c L => rw [hL] at h; simp at h; rw [h]; rfl
theorem dval_words {L : List UInt8} (h : isdig L) (hl : L.length ≤ 16384) : (words (dval L)).length ≤ 16384 := Nat.le_trans (dec_len (dval_lt h)) hl
theorem ival_abs (s : ByteArray) : (ival s).natAbs = dval (afterS s).data.toList := by
 unfold ival sg
 split <;> simp
theorem bsetstr (gz : Nat) (z0 z1 : Value) (s : ByteArray) (w : World) (hz : Bk w gz [z0, z1] 86) (hd : digB (afterS s).data.toList = true) (hle : (afterS s).size ≤ 16384) :
 Calls Tryz.prog 192 #[.pointer (some ⟨gz, 0, none⟩), .string s, .int .i64 10] w fun e w' => e = .returned (.tuple #[.pointer (some ⟨gz, 0, none⟩), .bool true]) ∧ In 86 w' gz (ival s) ∧ Keeps w.heap.size [gz] w w' := by
 obtain ⟨h1, h2, -⟩ := digB_isdig hd; have hl : (afterS s).data.toList.length ≤ 1073741824 := by rw [← bytes_len _ _ rfl]; omega
 unfold ival; cases hm : minusB s with
 | true => exact bsetstrN gz z0 z1 s _ w hz (text_list hm) h1 h2 hl
 | false =>
   have ha : s.data.toList = ([] : List UInt8) ++ (afterS s).data.toList := by
    rw [after_list, hm]; rfl
   exact bsetstrP gz z0 z1 s _ w hz ha h1 h2 hl
theorem bfraction (n d : ByteArray) (w : World) (hok : okT n d) (hvr : Vr w) :
 Calls Tryz.prog 140 #[.agg #[.string n, .string d]] w fun e w' => ∃ g, e = .returned (.pointer (some ⟨g, 0, none⟩)) ∧ w.heap.size ≤ g ∧ Ra 88 w' g (rval n d) ∧ Below w.heap.size w w' := by
 obtain ⟨h1, h2⟩ := hok; obtain ⟨l1, d1, -⟩ := textE_ok h1; obtain ⟨l2, d2, d3⟩ := textE_ok h2; obtain ⟨d4, d5⟩ := d3 rfl; have n0 := dval_ne0 d2 d5; have i1 := (digB_isdig d1).1; have i2 := (digB_isdig d2).1; have w1l := dval_words i1 (by rw [← bytes_len _ _ rfl]; exact l1)
 have w2l := dval_words i2 (by rw [← bytes_len _ _ rfl]; exact l2)
 have hid_ : ival d = (dval (afterS d).data.toList : Int) := by unfold ival; rw [d4]; rfl
 have al : ∀ (v : World) {o : Obj}, Below v.heap.size v (v.alloc o) := fun v o => (Below.refl _ _).alloc (Nat.le_refl _) _
 have HW : Hid (Below w.heap.size w ((w.alloc (.cells #[.string n, .string d] 31)).alloc (.cells #[.bool false, .slice none 0 0] 86))) := hid (((Below.refl _ _).alloc (Nat.le_refl _) _).alloc ((Below.refl w.heap.size w).alloc (Nat.le_refl _) (.cells #[.string n, .string d] 31)).size _); have BX : Hid (Bk ((w.alloc (.cells #[.string n, .string d] 31)).alloc (.cells #[.bool false, .slice none 0 0] 86)) w.heap.size [.string n, .string d] 31) := hid ((show Bk (w.alloc (.cells #[.string n, .string d] 31)) w.heap.size [.string n, .string d] 31 from ⟨by rw [block_at], by decide⟩).below ((Below.refl _ _).alloc (Nat.le_refl _) _))
 have S1 := hid (bsetstr (w.heap.size + 1) (.bool false) (.slice none 0 0) n ((w.alloc (.cells #[.string n, .string d] 31)).alloc (.cells #[.bool false, .slice none 0 0] 86)) ⟨by rw [block_at], by decide⟩ d1 l1)
 have S2 := hid (fun (w1 : World) => bsetstr w1.heap.size (.bool false) (.slice none 0 0) d (w1.alloc (.cells #[.bool false, .slice none 0 0] 86)) ⟨by rw [block_at], by decide⟩ d2 l2)
 have HV := hid hvr; have SF := hid (fun (w2 : World) (g1 g2 : Nat) (a : In 86 w2 g1 (ival n)) (c : In 86 w2 g2 (ival d)) (q : Below w.heap.size w w2) => bsetfrac w2.heap.size g1 g2 (.bool false) (.slice none 0 0) (.slice none 0 0) (ival n) (dval (afterS d).data.toList) (w2.alloc (.cells #[.bool false, .slice none 0 0, .slice none 0 0] 88)) ⟨by rw [block_at], by decide⟩ (a.ia.below (al w2)) (hid_ ▸ (c.ia.below (al w2))) (by rw [ival_abs]; omega) (by omega) n0 (HV.out.below (Below.trans q (below_low (al w2) q.size))))
 obtain ⟨R, hR⟩ : ∃ R, R = rval n d := ⟨_, rfl⟩; have hR2 : mkRat (ival n) (dval (afterS d).data.toList) = R := hR.symm; rw [hR2] at SF; rw [← hR]; generalize ival n = x at *; generalize ival d = y at *; clear hR hR2 h1 h2 l1 d1 l2 d2 d3 d4 d5 n0 i1 i2 w1l w2l hid_ hvr; have AL := hid (@al); clear al; go_enter Tryz.func140, Tryz.ntmps140; go_wp2_with (first | (go_at_call 192; (with_reducible refine S1.out.mono ?_); rintro e w1 ⟨rfl, hI1, hk1⟩; have hb1 := below_keeps HW.out hk1 (Nat.le_add_right _ 1) HW.out.size; have hB1 : Bk w1 w.heap.size [.string n, .string d] 31 := BX.out.keep hk1 (Nat.le_refl _) (by simp); have x1 := hB1.cell (i := 1) rfl; haveI : Has w1 w.heap.size := ⟨hB1.lt⟩; have HI1 := hid hI1; have HB1 := hid hb1; clear hI1 hk1 hb1 hB1) | (go_at_call 192; (with_reducible refine (S2.out w1).mono ?_); rintro e w2 ⟨rfl, hI2, hk2⟩; have hb2 := below_keeps (AL.out w1) hk2 (Nat.le_refl _) (AL.out w1).size; have HI2 := hid hI2; have HB2 := hid hb2; have HI12 := hid (HI1.out.below HB2.out); have HC2 := hid (Below.trans HB1.out (below_low HB2.out HB1.out.size)); clear hI2 hk2 hb2 x1) | (go_at_call 193; (with_reducible refine (SF.out w2 _ _ HI12.out HI2.out HC2.out).mono ?_); rintro e w3 ⟨rfl, hR3, hk3⟩; have hb3 := below_keeps (AL.out w2) hk3 (Nat.le_refl _) (AL.out w2).size; have HR3 := hid hR3; have HB3 := hid hb3; clear hR3 hk3 hb3))
 go_ret
 exact ⟨_, rfl, Nat.le_trans HC2.out.size (Nat.le_refl _), HR3.out, Below.trans HC2.out (below_low HB3.out HC2.out.size)⟩
theorem btellF (gx : Nat) (r : _root_.Rat) (w : World) (hx : Ra 88 w gx r) (ln : (words r.num.natAbs).length ≤ 67108864) (ld : (words r.den).length ≤ 67108864) :
 Calls Tryz.prog 89 #[.pointer (some ⟨gx, 0, none⟩)] w fun e w' => e = .returned (.agg #[.string ⟨(itext r.num).toArray⟩, .string ⟨(itext r.den).toArray⟩]) ∧ Below w.heap.size w w' := by
 have hb0 : Below w.heap.size w (w.alloc (.cells #[.string ⟨#[]⟩, .string ⟨#[]⟩] 31)) := (Below.refl _ _).alloc (Nat.le_refl _) _; have BX : Hid (Bk (w.alloc (.cells #[.string ⟨#[]⟩, .string ⟨#[]⟩] 31)) w.heap.size [.string ⟨#[]⟩, .string ⟨#[]⟩] 31) := hid ⟨by rw [block_at], by decide⟩
 have N1 := hid (bnum gx r (w.alloc (.cells #[.string ⟨#[]⟩, .string ⟨#[]⟩] 31)) (hx.below hb0) (by omega))
 have N2 := hid (fun (v : World) (q : Below (w.alloc (.cells #[.string ⟨#[]⟩, .string ⟨#[]⟩] 31)).heap.size (w.alloc (.cells #[.string ⟨#[]⟩, .string ⟨#[]⟩] 31)) v) => bdenom gx r v ((hx.below hb0).below q) (by omega))
 have ST := hid (fun (v : World) (g : Nat) (N : Int) (h : In 86 v g N) (l : (words N.natAbs).length ≤ 67108864) => bstring g N v h.ia l)
 have LN := hid ln; have LD : Hid ((words (r.den : Int).natAbs).length ≤ 67108864) := hid ld; have HB0 := hid hb0; have ES : Hid ((w.alloc (.cells #[.string ⟨#[]⟩, .string ⟨#[]⟩] 31)).heap.size = w.heap.size + 1) := hid (Array.size_push _); clear hx ln ld hb0; go_enter Tryz.func89, Tryz.ntmps89; go_wp2_with first | (go_at_call 135; (with_reducible refine (N1.out).mono ?_); rintro e w1 ⟨rfl, hI1, hb1⟩; have HI1 : Hid (In 86 w1 (w.heap.size + 1) r.num) := hid (by rw [← ES.out]; exact hI1); have HB1 := hid hb1; clear hI1 hb1) | (go_at_call 136; (with_reducible refine (ST.out w1 _ _ HI1.out LN.out).mono ?_); rintro e w2 ⟨rfl, hb2⟩; have HB2 := hid (Below.trans HB1.out (below_low hb2 HB1.out.size)); clear hb2) | (go_at_call 137; (with_reducible refine (N2.out w2 HB2.out).mono ?_); rintro e w3 ⟨rfl, hI3, hb3⟩; have HI3 := hid hI3; have HB3 := hid (Below.trans HB2.out (below_low hb3 HB2.out.size)); clear hI3 hb3) | (go_at_call 136; (with_reducible refine (ST.out w3 _ _ HI3.out LD.out).mono ?_); rintro e w4 ⟨rfl, hb4⟩; have HB4 := hid (Below.trans HB3.out (below_low hb4 HB3.out.size)); have hB4 : Bk w4 w.heap.size [.string ⟨#[]⟩, .string ⟨#[]⟩] 31 := BX.out.below HB4.out; have x0 := hB4.cell (i := 0) rfl; have x1 := hB4.cell (i := 1) rfl; have f0 := hB4.free 0; have f1 := hB4.free 1; haveI : Has w4 w.heap.size := ⟨hB4.lt⟩; clear hb4)
 have hB5 := (hB4.set 0 (.string ⟨(itext r.num).toArray⟩)).set 1 (.string ⟨(itext r.den).toArray⟩); refine bodyPost_ret (results_cell_row rfl _ _ w.heap.size 31 _ (0, 0) _ rfl hB5.1 (by rfl) (by rfl) (by rfl)) rfl ?_
 exact ⟨rfl, below_store (below_store (Below.trans HB0.out (below_low HB4.out HB0.out.size)) (Nat.le_refl _)) (Nat.le_refl _)⟩
end Go.Proofs.YthjeejnggpjnjaaGreatDoor
