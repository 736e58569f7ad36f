/- A part: AS, AT, AU, AV. -/
import Derived.Test.YthjeejnggpjnjaaGreatDoorZO16
set_option linter.unusedSimpArgs false
set_option linter.unusedVariables false
set_option maxRecDepth 100000
set_option maxHeartbeats 16000000
set_option synthInstance.maxHeartbeats 2000000
set_option synthInstance.maxSize 100000
namespace Go.Proofs.YthjeejnggpjnjaaGreatDoor
open Go.RowKit
def TellC (M : Nat) : Prop := ∀ (least : Int) (va : Value) (w : World), -1099511627776 ≤ least - (bl M : Int) → least ≤ 549755813888 → (M ≠ 0 ∨ 0 < least) → Wd w va (words M) →
 Calls Tryz.prog 227 #[va, .int .i64 10, .int .i64 least] w fun e w' => ∃ v, e = .returned v ∧ Ob w' w.heap.size v (padf least.toNat M) ∧ Below w.heap.size w w'
theorem bl_div {M k : Nat} (h : M / 10 ^ k ≠ 0) : bl (M / 10 ^ k) + k ≤ bl M := by
 have h1 := bl_le h; have h2 := bl_lt M; have h3 : M / 10 ^ k * 10 ^ k ≤ M := Nat.div_mul_le_self _ _; have h4 : 2 ^ k ≤ 10 ^ k := Nat.pow_le_pow_left (by decide) _
 have h5 : 2 ^ (bl (M / 10 ^ k) - 1) * 2 ^ k ≤ M / 10 ^ k * 10 ^ k := Nat.mul_le_mul h1 h4; rw [← Nat.pow_add] at h5; have h6 := (Nat.pow_lt_pow_iff_right (by decide : 1 < 2)).1 (Nat.lt_of_le_of_lt h5 (Nat.lt_of_le_of_lt h3 h2))
 have h7 : 0 < bl (M / 10 ^ k) := by
  rcases Nat.eq_zero_or_pos (bl (M / 10 ^ k)) with h8 | h8
  · have h9 := bl_lt (M / 10 ^ k); rw [h8, Nat.pow_zero] at h9; exact absurd (Nat.lt_one_iff.1 h9) h
  · exact h8
 omega
theorem half_pow {M k : Nat} (h40 : 40 < (words M).length) (hk : k = (words M).length / 2 * 8) : 10 ^ k ≤ M := by
 have h0 : M ≠ 0 := fun e => by rw [e, words_0] at h40; simp at h40
 have h1 := words_top h0; have h2 : 10 ^ k ≤ 16 ^ k := Nat.pow_le_pow_left (by decide) _
 rw [show (16 : Nat) = 2 ^ 4 from rfl, ← Nat.pow_mul] at h2
 rw [show (4294967296 : Nat) = 2 ^ 32 from rfl, ← Nat.pow_mul] at h1
 refine Nat.le_trans h2 (Nat.le_trans (Nat.pow_le_pow_right (by decide) ?_) h1)
 omega
theorem bl10 : bl 10 = 4 := by
 have := bl_of (x := 10) (k := 3) (by decide) (by decide)
 exact this
theorem Ob.low {w : World} {B B' : Nat} {v : Value} {L : List UInt8} (h : Ob w B v L) (hB : B' ≤ B) : Ob w B' v L := by
 rcases h.2 with h0 | ⟨q, cap, cur, he, hq, hb, h1⟩
 · exact ⟨h.1, .inl h0⟩
 · exact ⟨h.1, .inr ⟨q, cap, cur, he, by omega, hb, h1⟩⟩
theorem u8_news {w : World} {g : Nat} {L : List UInt8} (h : ∀ (i : Nat) (c : UInt8), L[i]? = some c → w.cell? ⟨g, i, none⟩ = some (.int .u8 c.toNat)) (j : Nat) (u : Value) (hu : (u8s L)[j]? = some u) : w.cell? ((⟨g, 0, none⟩ : Addr).add j) = some u := by
 have hadd : (⟨g, 0, none⟩ : Addr).add j = ⟨g, j, none⟩ := by unfold Addr.add; split <;> simp_all
 rw [hadd]; rw [u8s_get] at hu; cases hc : L[j]? with
 | none => rw [hc] at hu; cases hu
 | some c => rw [hc] at hu; rw [h j c hc]; exact hu
theorem btell_long (M : Nat) (h40 : 40 < (words M).length) (hl : (words M).length ≤ 67108864) (k : Nat) (hk : k = (words M).length / 2 * 8) (I1 : TellC (M / 10 ^ k)) (I2 : TellC (M % 10 ^ k)) : TellC M := by
 intro least va w hl1 hl2 hor ha; have hp := half_pow h40 hk; obtain ⟨hi, hhi⟩ : ∃ hi, hi = M / 10 ^ k := ⟨_, rfl⟩; obtain ⟨lo, hlo⟩ : ∃ lo, lo = M % 10 ^ k := ⟨_, rfl⟩
 have hi0 : M / 10 ^ k ≠ 0 := by
  have := Nat.div_pos hp (pow10_pos k); omega
 have hlt : M % 10 ^ k < 10 ^ k := Nat.mod_lt _ (pow10_pos k); have sp := padf_split least.toNat k M hi0; have bd := bl_div hi0; have pl := padf_len k _ hlt
 have blo : bl (M % 10 ^ k) ≤ 549755813888 := by
  have h1 := bl_lenW (M % 10 ^ k); have h2 := len_mono (Nat.mod_le M (10 ^ k)); omega
 have lp := pow10_len k; have DV := hid (fun v w' (h : Below w.heap.size w w') (h1 : Wd w' v (words (10 ^ k))) => bdiv va v M (10 ^ k) w' (ha.below h) h1 (by omega) (by omega) (by have := pow10_pos k; omega))
 have ph : (padf (least - (k : Int)).toNat (M / 10 ^ k)).length ≤ 1099511627776 := by
  unfold padf; have h1 := figs_words (M / 10 ^ k); have h2 := len_mono (Nat.div_le_self M (10 ^ k)); rw [List.length_append, List.length_replicate]; omega
 rw [← hhi] at I1 sp bd DV hi0 ph; rw [← hlo] at I2 sp pl blo DV; have I1' := hid (fun va' w' (h : Below w.heap.size w w') (q : Wd w' va' (words hi)) => I1 (least - (k : Int)) va' w' (by omega) (by omega) (.inl hi0) q)
 have I2' := hid (fun va' w' (h : Below w.heap.size w w') (q : Wd w' va' (words lo)) => I2 (k : Int) va' w' (by omega) (by omega) (.inr (by omega)) q)
 rw [Int.toNat_natCast] at I2'; obtain ⟨Lh, hLh⟩ : ∃ Lh, Lh = (least - (k : Int)).toNat := ⟨_, rfl⟩; rw [← hLh] at I1' ph; clear I1 I2; have I1 := I1'; have I2 := I2'; clear I1' I2'; have hp4 : 0 < (padf k lo).length := by omega
 have pl2 : (padf k lo).length ≤ 1099511627776 := by omega
 have hkB : k ≤ 1073741824 := by omega
 have LN0 := len32 10 (by decide)
 unfold Len32 at LN0; rw [bl10] at LN0; have LN : ∀ w, Calls Tryz.prog 214 #[.int .u32 10] w fun e w' => e = .returned (.int .i64 4) ∧ w = w' := LN0
 clear LN0
 have SP : Hid (padf least.toNat M = padf Lh hi ++ padf k lo) := hid (by
  rw [sp, hLh, show (least - (k : Int)).toNat = least.toNat - k by omega])
 clear hLh; obtain ⟨aa, ca, rfl, -, -⟩ := ha.form; obtain ⟨h2, hh2⟩ : ∃ h2, h2 = (words M).length / 2 := ⟨_, rfl⟩; have e1 : ((words M).length : Int) / 2 = (h2 : Int) := by omega
 have e2 : (h2 : Int) * 32 / 4 = (k : Int) := by omega
 have h40I : (40 : Int) < ((words M).length : Int) := by omega
 obtain ⟨ti, hti, htz, hts, htb⟩ := info_parts info5; have hlk : -1099511627776 ≤ least - (k : Int) := by omega
 have hlk2 : -1099511627776 ≤ least := by omega
 clear hhi hlo hi0 hlt sp bd pl blo lp hk hh2 hp ha hor hl1; go_enter Tryz.func227, Tryz.ntmps227; go_wp2_with (first | (go_at_call 214; (with_reducible refine (LN _).mono ?_); rintro e w' ⟨rfl, hw⟩; obtain rfl := hw) | (go_at_call 242; (with_reducible refine (bpower k hkB _).mono ?_); rintro e w1 ⟨v1, rfl, h1, hb1⟩) | (go_at_call 177; (with_reducible refine (DV.out _ _ hb1 h1).mono ?_); rintro e w2 ⟨vq, vr, rfl, hq2, hr2, -, -, hw2⟩; have hb2 := Below.trans hb1 (below_low hw2 hb1.size)) | (go_at_call 227; (with_reducible refine (I1.out _ _ hb2 hq2).mono ?_); rintro e w3 ⟨v3, rfl, ho3, hw3⟩; have hb3 := Below.trans hb2 (below_low hw3 hb2.size); have hr3 := hr2.below hw3) | (go_at_call 227; (with_reducible refine (I2.out _ _ hb3 hr3).mono ?_); rintro e w4 ⟨v4, rfl, ho4, hw4⟩; have hb4 := Below.trans hb3 (below_low hw4 hb3.size); obtain ⟨g4, c4, rfl, hg4, hc4, hl4, hcell4⟩ := ho4.form hp4; have O3 := hid ((ho3.low hb2.size).below hw4); have N4 : Hid (∀ (j : Nat) (u : Value), (u8s (padf k lo))[j]? = some u → w4.cell? ((⟨g4, 0, none⟩ : Addr).add j) = some u) := hid (u8_news hcell4)) | (at_builtin; refine wpList_append_lies _ (by rfl) _ _ _ (by rfl) w.heap.size 5 ti _ 1 1 Tryz.underlying232 hti htz hts htb rfl (by omega) v3 (padf Lh hi).length (u8s (padf Lh hi)) (by rfl) O3.out ⟨g4, 0, none⟩ (padf k lo).length c4 (u8s (padf k lo)) (by rfl) (by rw [u8s_len, Nat.mul_one]) N4.out (by intro u hu; unfold u8s at hu; obtain ⟨c, -, rfl⟩ := List.mem_map.1 hu; rfl) hp4 (by unfold maxLen; omega) (by omega) hb4.size _ rfl ?_; intro g5 c5 w5 hown hgrow hat hlt))
 go_ret
 refine ⟨.slice (some ⟨g5, 0, none⟩) ((padf Lh hi).length + (padf k lo).length) c5, rfl, ?_, Below.trans hb4 (own_grow O3.out hb4.size hgrow)⟩
 rw [SP.out]; unfold Ob; rw [List.length_append]; unfold u8s at hown ⊢; rw [List.map_append]; exact hown
theorem btell (M : Nat) (hl : (words M).length ≤ 67108864) : TellC M := by
 induction M using Nat.strongRecOn with
 | _ M ih =>
   by_cases h : (words M).length ≤ 40
   · intro least va w hl1 hl2 hor ha; exact btell_short M least (by omega) hl2 hor h va w ha
   · have h40 : 40 < (words M).length := by omega
     have hp := half_pow h40 rfl; have h1 : 1 < 10 ^ ((words M).length / 2 * 8) := Nat.one_lt_pow (by omega) (by decide)
     have hM : 0 < M := by omega
     refine btell_long M h40 (by omega) _ rfl (ih _ (Nat.div_lt_self hM h1) ?_) (ih _ (Nat.lt_of_lt_of_le (Nat.mod_lt _ (by omega)) hp) ?_)
     · exact Nat.le_trans (len_mono (Nat.div_le_self _ _)) hl
     · exact Nat.le_trans (len_mono (Nat.mod_le _ _)) hl
def itext (n : Int) : List UInt8 := if n < 0 then 45 :: padf 1 n.natAbs else padf 1 n.natAbs
theorem padf1 {n : Nat} (h : n ≠ 0) : padf 1 n = figs n := by
 have h1 : (figs n).length ≠ 0 := fun e => h (by have := figs_len (n := n) (k := 0); omega)
 unfold padf; rw [show 1 - (figs n).length = 0 by omega]
 rfl
theorem bytes_strO (w : World) (B n : Nat) (a : Option Addr) (cap : Nat) (L : List UInt8) (h : Ob w B (.slice a n cap) L) (h0 : 0 < L.length) :
 (convert 232 9 (.slice a n cap)).run Tryz.prog w = .ok (.string ⟨L.toArray⟩) w := by
 obtain ⟨g, c, he, -, -, -, hce⟩ := h.form h0; simp only [Value.slice.injEq] at he; obtain ⟨rfl, rfl, rfl⟩ := he; rw [run_convert_bytes_string w 232 9 5 _ L.length cap Tryz.underlying232 Tryz.underlying5 Tryz.underlying9]
 have hl := run_loadCells_list (P := Tryz.prog) (w := w) ⟨g, 0, none⟩ ((L.map fun c : UInt8 => (c.toNat : Int)).map (Value.int .u8)) (fun j v hv => by
  rw [List.map_map] at hv; exact u8_news hce j v hv)
 rw [List.length_map, List.length_map] at hl; rw [run_bytesToString w ⟨g, 0, none⟩ L.length cap (L.map fun c : UInt8 => (c.toNat : Int)) hl, push_bytes]
 simp
theorem str45a (L : List UInt8) : (({ data := #[45] } : ByteArray) ++ ⟨L.toArray⟩) = (⟨(45 :: L).toArray⟩ : ByteArray) := by
 apply ByteArray.ext
 simp
theorem str45 (L : List UInt8) : Ending.returned (.string (({ data := #[45] } : ByteArray) ++ ⟨L.toArray⟩)) = Ending.returned (.string ⟨(45 :: L).toArray⟩) := by rw [str45a]
theorem btext (gx : Nat) (N : Int) (w : World) (hx : Ia w gx N) (hl : (words N.natAbs).length ≤ 67108864) :
 Calls Tryz.prog 187 #[.pointer (some ⟨gx, 0, none⟩), .int .i64 10] w fun e w' => e = .returned (.string ⟨(itext N).toArray⟩) ∧ Below w.heap.size w w' := by
 obtain ⟨vx, R, T, bx, wx⟩ := hx; obtain ⟨ax, cx, rfl, -, -⟩ := wx.form; have hbl := bl_lenW N.natAbs; have TL := hid (fun w' (h : Below w.heap.size w w') => btell N.natAbs hl 1 _ w' (by omega) (by omega) (.inr (by decide)) (wx.below h))
 have PL : 0 < (padf (1 : Int).toNat N.natAbs).length := by
  show 0 < (padf 1 N.natAbs).length
  by_cases h : N.natAbs = 0
  · rw [h]; unfold padf; rw [figs_0]; simp
  · rw [padf1 h]; have := figs_len (n := N.natAbs) (k := 0); omega
 have PB : (padf (1 : Int).toNat N.natAbs).length ≤ 1099511627776 := by
  show (padf 1 N.natAbs).length ≤ _
  unfold padf; have := figs_words N.natAbs; rw [List.length_append, List.length_replicate]; omega
 have hadd := fun w => run_string_add_sum (P := Tryz.prog) (w := w) (⟨#[45]⟩ : ByteArray) ⟨(padf (1 : Int).toNat N.natAbs).toArray⟩ (by
  show 1 + (padf (1 : Int).toNat N.natAbs).toArray.size ≤ _
  rw [List.size_toArray]; omega)
 have BX := hid bx; have x0 := bx.cell (i := 0) rfl; have x1 := bx.cell (i := 1) rfl; haveI : Has w gx := ⟨bx.lt⟩; obtain ⟨R1, hR1⟩ : ∃ R1, R1 = itext N := ⟨_, rfl⟩; rw [← hR1]; by_cases hneg : N < 0
 · have RV : Hid (R1 = 45 :: padf (1 : Int).toNat N.natAbs) := hid (by rw [hR1, itext, if_pos hneg]; rfl)
   rw [decide_eq_true hneg] at x0 BX; generalize padf (1 : Int).toNat N.natAbs = L1 at *; clear hR1 hneg bx wx hbl; go_enter Tryz.func187, Tryz.ntmps187; go_wp2_with (go_at_call 227; (with_reducible refine (TL.out _ (Below.refl _ _)).mono ?_); rintro e w1 ⟨v1, rfl, ho1, hb1⟩; obtain ⟨a1, c1, rfl, -⟩ := ho1.formA; have hcv := bytes_strO w1 _ _ a1 c1 _ ho1 PL; have xs0 := (BX.out.below hb1).cell (i := 0) rfl; haveI : Has w1 gx := ⟨(BX.out.below hb1).lt⟩)
   go_ret
   exact ⟨by rw [RV.out]; exact str45 _, hb1⟩
 · have RV : Hid (R1 = padf (1 : Int).toNat N.natAbs) := hid (by rw [hR1, itext, if_neg hneg]; rfl)
   rw [decide_eq_false hneg] at x0 BX; generalize padf (1 : Int).toNat N.natAbs = L1 at *; clear hR1 hneg bx wx hbl; go_enter Tryz.func187, Tryz.ntmps187; go_wp2_with (go_at_call 227; (with_reducible refine (TL.out _ (Below.refl _ _)).mono ?_); rintro e w1 ⟨v1, rfl, ho1, hb1⟩; obtain ⟨a1, c1, rfl, -⟩ := ho1.formA; have hcv := bytes_strO w1 _ _ a1 c1 _ ho1 PL; have xs0 := (BX.out.below hb1).cell (i := 0) rfl; haveI : Has w1 gx := ⟨(BX.out.below hb1).lt⟩)
   go_ret
   exact ⟨by rw [RV.out]; rfl, hb1⟩
theorem bstring (gx : Nat) (N : Int) (w : World) (hx : Ia w gx N) (hl : (words N.natAbs).length ≤ 67108864) :
 Calls Tryz.prog 136 #[.pointer (some ⟨gx, 0, none⟩)] w fun e w' => e = .returned (.string ⟨(itext N).toArray⟩) ∧ Below w.heap.size w w' := by
 have TX := hid (btext gx N w hx hl); generalize itext N = R1 at *; clear hx hl; go_enter Tryz.func136, Tryz.ntmps136; go_wp2_with (go_at_call 187; (with_reducible refine TX.out.mono ?_); rintro e w1 ⟨rfl, hb1⟩)
 go_ret
 exact ⟨rfl, hb1⟩
theorem etext0 (gx : Nat) (w : World) (hx : In 123 w gx 0) : Calls Tryz.prog 204 #[.pointer (some ⟨gx, 0, none⟩), .int .i64 10] w fun e w' => e = .returned (.string ⟨(itext 0).toArray⟩) ∧ Below w.heap.size w w' := by
 obtain ⟨vx, bx, wx⟩ := hx; obtain ⟨ax, cx, rfl, -, -⟩ := wx.form; have x1 := bx.cell (i := 1) rfl; rw [show (words (0 : Int).natAbs).length = 0 by rw [show (0 : Int).natAbs = 0 from rfl, words_0]; rfl] at x1
 rw [show itext 0 = [48] by unfold itext padf; rw [show (0 : Int).natAbs = 0 from rfl, figs_0]; rfl]
 haveI : Has w gx := ⟨bx.lt⟩; clear bx wx; go_enter Tryz.func204, Tryz.ntmps204; go_wp2_with fail
 go_ret
 exact ⟨rfl, Below.refl _ _⟩
theorem estring (gx : Nat) (N : Int) (w : World) (hx : In 123 w gx N) (hl : (words N.natAbs).length ≤ 67108864) :
 Calls Tryz.prog 150 #[.pointer (some ⟨gx, 0, none⟩)] w fun e w' => e = .returned (.string ⟨(itext N).toArray⟩) ∧ Below w.heap.size w w' := by
 have TX : Hid (Calls Tryz.prog 204 #[.pointer (some ⟨gx, 0, none⟩), .int .i64 10] w fun e w' => e = .returned (.string ⟨(itext N).toArray⟩) ∧ Below w.heap.size w w') := hid (by
  by_cases h0 : N = 0
  · subst h0; exact etext0 gx w hx
  · have := etext gx N w hx h0 (by omega)
    unfold itext; rw [padf1 (by omega)]
    exact this)
 generalize itext N = R1 at *; clear hx hl; go_enter Tryz.func150, Tryz.ntmps150; go_wp2_with (go_at_call 204; (with_reducible refine TX.out.mono ?_); rintro e w1 ⟨rfl, hb1⟩)
 go_ret
 exact ⟨rfl, hb1⟩
def minusB (s : ByteArray) : Bool := decide (s.data.toList.head? = some 45)
def afterS (s : ByteArray) : ByteArray := if minusB s then s.extract 1 s.size else s
theorem extract_one (s : ByteArray) (c : UInt8) (L : List UInt8) (h : s.data.toList = c :: L) : s.extract 0 1 = ⟨#[c]⟩ := by
 apply ByteArray.ext
 rw [← Array.toList_inj, Lib.extract_data, h]; rfl
theorem after_list (s : ByteArray) : (afterS s).data.toList = if minusB s then s.data.toList.drop 1 else s.data.toList := by
 unfold afterS
 split
 · rw [Lib.extract_to_end]
 · rfl
theorem size_pos_of {s : ByteArray} {c : UInt8} {L : List UInt8} (h : s.data.toList = c :: L) : 0 < s.size := by rw [bytes_len s _ h]; simp
theorem bhas (s : ByteArray) (hs : s.size ≤ maxLen) (w : World) : Calls Tryz.prog 228 #[.string s, .string ⟨#[45]⟩] w fun e w' => e = .returned (.bool (minusB s)) ∧ w' = w := by
 unfold maxLen at hs; cases hL : s.data.toList with
 | nil =>
   have hz : s.size = 0 := by rw [bytes_len s _ hL]; rfl
   have hr : minusB s = false := by unfold minusB; rw [hL]; rfl
   rw [hr]; clear hr hL; go_enter Tryz.func228, Tryz.ntmps228; go_wp2_with fail
   go_ret
   exact ⟨rfl, rfl⟩
 | cons c L =>
   have hz := size_pos_of hL; have hx := extract_one s c L hL; have hr : minusB s = decide (c = 45) := by unfold minusB; rw [hL]; simp
   have hI : (1 : Int) ≤ (s.size : Int) := by omega
   rw [hr]; by_cases hc : c = 45
   · subst hc; have hq : ((s.extract 0 1).toList == [45]) = true := by rw [hx, ByteArray.toList_eq]; rfl
     clear hr hL hx; go_enter Tryz.func228, Tryz.ntmps228; go_wp2_with fail
     go_ret
     exact ⟨rfl, rfl⟩
   · have hq : ((s.extract 0 1).toList == [45]) = false := by
      rw [hx, ByteArray.toList_eq]; exact beq_eq_false_iff_ne.2 (fun e => hc (by simpa using e))
     rw [decide_eq_false hc]; clear hr hL hx hc; go_enter Tryz.func228, Tryz.ntmps228; go_wp2_with fail
     go_ret
     exact ⟨rfl, rfl⟩
def digB (L : List UInt8) : Bool := L.all (fun c => decide (48 ≤ c.toNat) && decide (c.toNat ≤ 57)) && (decide (L ≠ []) && (decide (L.head? ≠ some 48) || decide (L = [48])))
theorem digB_bad {L : List UInt8} {i : Nat} (hi : i < L.length) (h : ¬ (48 ≤ L[i].toNat ∧ L[i].toNat ≤ 57)) : digB L = false := by
 have : L.all (fun c => decide (48 ≤ c.toNat) && decide (c.toNat ≤ 57)) = false := by
  rw [List.all_eq_false]; exact ⟨L[i], List.getElem_mem hi, by simpa using h⟩
 unfold digB; rw [this]; rfl
theorem digB_good {L : List UInt8} (h : ∀ i (hi : i < L.length), 48 ≤ L[i].toNat ∧ L[i].toNat ≤ 57) : digB L = (decide (L ≠ []) && (decide (L.head? ≠ some 48) || decide (L = [48]))) := by
 have : L.all (fun c => decide (48 ≤ c.toNat) && decide (c.toNat ≤ 57)) = true := by
  rw [List.all_eq_true]; intro c hc; obtain ⟨i, hi, rfl⟩ := List.getElem_of_mem hc; have := h i hi; simp [this]
 unfold digB; rw [this, Bool.true_and]
theorem digB_isdig {L : List UInt8} (h : digB L = true) : isdig L ∧ L ≠ [] ∧ (L.head? ≠ some 48 ∨ L = [48]) := by
 unfold digB at h; rw [Bool.and_eq_true, Bool.and_eq_true, List.all_eq_true] at h; obtain ⟨h1, h2, h3⟩ := h; refine ⟨fun c hc => by have := h1 c hc; simpa using this, of_decide_eq_true h2, ?_⟩
 rw [Bool.or_eq_true] at h3; exact h3.imp of_decide_eq_true of_decide_eq_true
theorem byte0 (s : ByteArray) (L : List UInt8) (h : s.data.toList = L) (k : Nat) (hk : k < L.length) (hj : k < s.size) : s[k] = L[k] := by
 have := byte_at s [] L h k hk (by show 0 + k < _; omega)
 simpa using this
theorem btrim1 (s : ByteArray) (hs : s.size ≤ maxLen) (w : World) : Calls Tryz.prog 189 #[.string s, .string ⟨#[45]⟩] w fun e w' => e = .returned (.string (afterS s)) ∧ w' = w := by
 have hs2 := hs; unfold maxLen at hs2; by_cases hm : minusB s = true
 · have hz : 1 ≤ s.size := by
    unfold minusB at hm; have := of_decide_eq_true hm; cases hL : s.data.toList with
    | nil => rw [hL] at this; cases this
    | cons c L => exact size_pos_of hL
   have ha : afterS s = s.extract 1 s.size := by unfold afterS; rw [if_pos hm]
   have hzI : (1 : Int) ≤ (s.size : Int) := by omega
   rw [ha]
   try rw [hm]
   have HM := hid hm; clear ha hm; go_enter Tryz.func189, Tryz.ntmps189; go_wp2_with (go_at_call 228; (with_reducible refine (bhas s hs _).mono ?_); rintro e w' ⟨rfl, hw⟩; obtain rfl := hw.symm; rw [HM.out])
   go_ret
   exact ⟨rfl, rfl⟩
 · have hm : minusB s = false := by simpa using hm
   have ha : afterS s = s := by unfold afterS; rw [hm]; rfl
   rw [ha]
   try rw [hm]
   have HM := hid hm; clear ha hm; go_enter Tryz.func189, Tryz.ntmps189; go_wp2_with (go_at_call 228; (with_reducible refine (bhas s hs _).mono ?_); rintro e w' ⟨rfl, hw⟩; obtain rfl := hw.symm; rw [HM.out])
   go_ret
   exact ⟨rfl, rfl⟩
theorem bcut1 (s : ByteArray) (hs : s.size ≤ maxLen) (w : World) : Calls Tryz.prog 229 #[.string s, .string ⟨#[45]⟩] w fun e w' => e = .returned (.tuple #[.string (afterS s), .bool (minusB s)]) ∧ w' = w := by
 have hs2 := hs; unfold maxLen at hs2; by_cases hm : minusB s = true
 · have hz : 1 ≤ s.size := by
    unfold minusB at hm; have := of_decide_eq_true hm; cases hL : s.data.toList with
    | nil => rw [hL] at this; cases this
    | cons c L => exact size_pos_of hL
   have ha : afterS s = s.extract 1 s.size := by unfold afterS; rw [if_pos hm]
   have hzI : (1 : Int) ≤ (s.size : Int) := by omega
   rw [ha]
   try rw [hm]
   have HM := hid hm; clear ha hm; go_enter Tryz.func229, Tryz.ntmps229; go_wp2_with (go_at_call 228; (with_reducible refine (bhas s hs _).mono ?_); rintro e w' ⟨rfl, hw⟩; obtain rfl := hw.symm; rw [HM.out])
   go_ret2
   exact ⟨rfl, rfl⟩
 · have hm : minusB s = false := by simpa using hm
   have ha : afterS s = s := by unfold afterS; rw [hm]; rfl
   rw [ha]
   try rw [hm]
   have HM := hid hm; clear ha hm; go_enter Tryz.func229, Tryz.ntmps229; go_wp2_with (go_at_call 228; (with_reducible refine (bhas s hs _).mono ?_); rintro e w' ⟨rfl, hw⟩; obtain rfl := hw.symm; rw [HM.out])
   go_ret2
   exact ⟨rfl, rfl⟩
theorem btrim2 (s : ByteArray) (hs : s.size ≤ maxLen) (w : World) : Calls Tryz.prog 138 #[.string s, .string ⟨#[45]⟩] w fun e w' => e = .returned (.string (afterS s)) ∧ w' = w := by
 have A := hid (btrim1 s hs w); generalize afterS s = t at *; go_enter Tryz.func138, Tryz.ntmps138; go_wp2_with (go_at_call 189; (with_reducible refine A.out.mono ?_); rintro e w' ⟨rfl, hw⟩; obtain rfl := hw.symm)
 go_ret
 exact ⟨rfl, rfl⟩
theorem bcut2 (s : ByteArray) (hs : s.size ≤ maxLen) (w : World) : Calls Tryz.prog 190 #[.string s, .string ⟨#[45]⟩] w fun e w' => e = .returned (.tuple #[.string (afterS s), .bool (minusB s)]) ∧ w' = w := by
 have A := hid (bcut1 s hs w); generalize afterS s = t at *; generalize minusB s = m at *; go_enter Tryz.func190, Tryz.ntmps190; go_wp2_with (go_at_call 229; (with_reducible refine A.out.mono ?_); rintro e w' ⟨rfl, hw⟩; obtain rfl := hw.symm)
 go_ret2
 exact ⟨rfl, rfl⟩
theorem blong (s : ByteArray) (hs : s.size ≤ maxLen) (w : World) : Calls Tryz.prog 90 #[.string s] w fun e w' => e = .returned (.int .i64 (afterS s).size) ∧ w' = w := by
 have A := hid (btrim2 s hs w); generalize afterS s = t at *; go_enter Tryz.func90, Tryz.ntmps90; go_wp2_with (go_at_call 138; (with_reducible refine A.out.mono ?_); rintro e w' ⟨rfl, hw⟩; obtain rfl := hw.symm)
 go_ret
 exact ⟨rfl, rfl⟩
theorem bdigits (s : ByteArray) (hs : s.size ≤ maxLen) (w : World) : Calls Tryz.prog 191 #[.string s] w fun e w' => e = .returned (.bool (digB s.data.toList)) ∧ w' = w := by
 unfold maxLen at hs; obtain ⟨L, hL⟩ : ∃ L, L = s.data.toList := ⟨_, rfl⟩; rw [← hL]; have HS := hid hL.symm; have HSZ := hid (bytes_len s L hL.symm); obtain ⟨R, hR⟩ : ∃ R, R = digB L := ⟨_, rfl⟩; rw [← hR]; have HR := hid hR; clear hL hR; rcases hc : L with _ | ⟨c, T⟩
 · have he : s.size = 0 := by rw [HSZ.out, hc]; rfl
   have he2 : s.toList.isEmpty = true := by rw [ByteArray.toList_eq, HS.out, hc]; rfl
   have he3 : s.toList = [] := by rw [ByteArray.toList_eq, HS.out, hc]
   have hr : R = false := by rw [HR.out, hc]; rfl
   subst hr; clear HR HS HSZ hc; go_enter Tryz.func191, Tryz.ntmps191; go_wp2_with fail
   go_loop [6] (fun si => si = .int .i64 0) (fun _ => 0)
   case atStart => exact rfl
   case round =>
    obtain rfl := hrel; go_wp2_with fail
    go_ret
    exact ⟨rfl, rfl⟩
 · have h0 : 0 < s.size := by rw [HSZ.out, hc]; simp
   obtain ⟨n0, hn0⟩ : ∃ n0, n0 = (s[0]'h0).toNat := ⟨_, rfl⟩; have hn0c : n0 = c.toNat := by rw [hn0, byte0 s L HS.out 0 (by rw [hc]; simp) h0]; simp only [hc]; rfl
   have hcn0 := hn0.symm; have he2 : s.toList.isEmpty = false := by rw [ByteArray.toList_eq, HS.out, hc]; rfl
   have he3 : (s.toList == [48]) = decide (L = [48]) := by rw [ByteArray.toList_eq, HS.out, Bool.eq_iff_iff, beq_iff_eq, decide_eq_true_iff]
   have HV : Hid (digB L = (decide (L ≠ []) && (decide (L.head? ≠ some 48) || decide (L = [48]))) → R = (!decide (n0 = 48) || decide (L = [48]))) := hid (fun h => by
    rw [HR.out, h, hc, hn0c]
    have : decide (c.toNat = 48) = decide (c = 48) := by
     rw [Bool.eq_iff_iff, decide_eq_true_iff, decide_eq_true_iff]
     constructor
     · intro h2; rw [← UInt8.toNat_inj]; exact h2
     · intro h2; rw [h2]; rfl
    rw [this, show decide (c :: T ≠ []) = true from by simp, Bool.true_and]
    congr 1
    by_cases h48 : c = 48 <;> simp [h48])
   have HC := hid hc; have hsz1 : (0 : Int) < (s.size : Int) := by omega
   clear hc hn0 hn0c; go_enter Tryz.func191, Tryz.ntmps191; go_wp2_with fail
   go_loop [6] (fun si => ∃ j : Nat, si = .int .i64 j ∧ j ≤ s.size ∧ Hid (∀ i (hi : i < L.length), i < j → 48 ≤ L[i].toNat ∧ L[i].toNat ≤ 57)) (fun si => s.size - (intOf si).toNat)
   case atStart => exact ⟨0, rfl, Nat.zero_le _, hid (fun i hi h => by omega)⟩
   case round =>
    obtain ⟨j, rfl, hj, hG⟩ := hrel; by_cases hlt : j < s.size
    · have hkl : j < L.length := by rw [← HSZ.out]; exact hlt
      obtain ⟨n, hn⟩ : ∃ n, n = (s[j]'hlt).toNat := ⟨_, rfl⟩; have hnl : n = L[j].toNat := by rw [hn, byte0 s L HS.out j hkl hlt]
      have hcn := hn.symm; have hltI : (j : Int) < (s.size : Int) := by omega
      have HB := hid (fun (h : ¬ (48 ≤ n ∧ n ≤ 57)) => HR.out.trans (digB_bad hkl (by rw [← hnl]; exact h)))
      have HG2 : Hid (48 ≤ n ∧ n ≤ 57 → ∀ i (hi : i < L.length), i < j + 1 → 48 ≤ L[i].toNat ∧ L[i].toNat ≤ 57) := hid (fun h i hi hij => by
       rcases Nat.lt_or_eq_of_le (Nat.le_of_lt_succ hij) with h2 | rfl
       · exact hG.out i hi h2
       · rw [← hnl]; exact h)
      clear hn hnl hG; by_cases h1 : n < 48
      · have hr := HB.out (by omega)
        subst hr; have h1I : (n : Int) < 48 := by omega
        go_wp2_with fail
        go_ret
        exact ⟨rfl, rfl⟩
      · have h1I : (48 : Int) ≤ (n : Int) := by omega
        have h1D : decide ((n : Int) < 48) = false := decide_eq_false (by omega)
        by_cases h2 : 57 < n
        · have hr := HB.out (by omega)
          subst hr; have h2I : (57 : Int) < (n : Int) := by omega
          go_wp2_with fail
          go_ret
          exact ⟨rfl, rfl⟩
        · have h2I : (n : Int) ≤ 57 := by omega
          have h2D : decide ((57 : Int) < (n : Int)) = false := decide_eq_false (by omega)
          have NX := hid (HG2.out (by omega))
          go_wp2_with fail
          go_round
          case rel => exact ⟨j + 1, by go_num, by omega, NX⟩
          case measure => simp [intOf]; omega
    · obtain rfl : j = s.size := by omega
      have hr := HR.out.trans (digB_good (fun i hi => hG.out i hi (by rw [HSZ.out]; exact hi)))
      have hr2 := HV.out (HR.out.symm.trans hr); by_cases hz : n0 = 48
      · have hzI : ((n0 : Int) == 48) = true := beq_iff_eq.2 (by omega)
        have hr3 : R = decide (L = [48]) := by rw [hr2, hz]; rfl
        have HR3 := hid hr3; clear hr hr2 hr3 hG; go_wp2_with fail
        all_goals first
         | (exfalso; omega)
         | (go_ret; exact ⟨by rw [HR3.out]; rfl, rfl⟩)
      · have hzI : ((n0 : Int) == 48) = false := beq_eq_false_iff_ne.2 (by omega)
        have hzI2 : ((n0 : Int) != 48) = true := bne_iff_ne.2 (by omega)
        have hzI3 : ¬ ((n0 : Int) = 48) := by omega
        have hr3 : R = true := by rw [hr2, decide_eq_false hz]; rfl
        clear hr hr2 hG; subst hr3; go_wp2_with fail
        all_goals first
         | (exfalso; omega)
         | (go_ret; exact ⟨rfl, rfl⟩)
theorem edigits (s : ByteArray) (hs : s.size ≤ maxLen) (w : World) : Calls Tryz.prog 206 #[.string s] w fun e w' => e = .returned (.bool (digB s.data.toList)) ∧ w' = w := by
 unfold maxLen at hs; obtain ⟨L, hL⟩ : ∃ L, L = s.data.toList := ⟨_, rfl⟩; rw [← hL]; have HS := hid hL.symm; have HSZ := hid (bytes_len s L hL.symm); obtain ⟨R, hR⟩ : ∃ R, R = digB L := ⟨_, rfl⟩; rw [← hR]; have HR := hid hR; clear hL hR; rcases hc : L with _ | ⟨c, T⟩
 · have he : s.size = 0 := by rw [HSZ.out, hc]; rfl
   have he2 : s.toList.isEmpty = true := by rw [ByteArray.toList_eq, HS.out, hc]; rfl
   have he3 : s.toList = [] := by rw [ByteArray.toList_eq, HS.out, hc]
   have hr : R = false := by rw [HR.out, hc]; rfl
   subst hr; clear HR HS HSZ hc; go_enter Tryz.func206, Tryz.ntmps206; go_wp2_with fail
   go_ret
   exact ⟨rfl, rfl⟩
 · have h0 : 0 < s.size := by rw [HSZ.out, hc]; simp
   obtain ⟨n0, hn0⟩ : ∃ n0, n0 = (s[0]'h0).toNat := ⟨_, rfl⟩; have hn0c : n0 = c.toNat := by rw [hn0, byte0 s L HS.out 0 (by rw [hc]; simp) h0]; simp only [hc]; rfl
   have hcn0 := hn0.symm; have he2 : s.toList.isEmpty = false := by rw [ByteArray.toList_eq, HS.out, hc]; rfl
   have he3 : (s.toList == [48]) = decide (L = [48]) := by rw [ByteArray.toList_eq, HS.out, Bool.eq_iff_iff, beq_iff_eq, decide_eq_true_iff]
   have HV : Hid (digB L = (decide (L ≠ []) && (decide (L.head? ≠ some 48) || decide (L = [48]))) → R = (!decide (n0 = 48) || decide (L = [48]))) := hid (fun h => by
    rw [HR.out, h, hc, hn0c]
    have : decide (c.toNat = 48) = decide (c = 48) := by
     rw [Bool.eq_iff_iff, decide_eq_true_iff, decide_eq_true_iff]
     constructor
     · intro h2; rw [← UInt8.toNat_inj]; exact h2
     · intro h2; rw [h2]; rfl
    rw [this, show decide (c :: T ≠ []) = true from by simp, Bool.true_and]
    congr 1
    by_cases h48 : c = 48 <;> simp [h48])
   have HC := hid hc; have hsz1 : (0 : Int) < (s.size : Int) := by omega
   clear hc hn0 hn0c; by_cases hz : n0 = 48 ∧ 1 < s.size
   · obtain ⟨hz1, hz2⟩ := hz; have hzI : ((n0 : Int) == 48) = true := beq_iff_eq.2 (by omega)
     have hz3 : (1 : Int) < (s.size : Int) := by omega
     have hr : R = false := by
      rw [HR.out]; by_cases hall : ∀ i (hi : i < L.length), 48 ≤ L[i].toNat ∧ L[i].toNat ≤ 57
      · rw [← HR.out, HV.out (digB_good hall), hz1]; have : L ≠ [48] := fun e => by have := HSZ.out; rw [e] at this; simp at this; omega
        rw [decide_eq_false this]; rfl
      · cases hd : digB L with
        | false => rfl
        | true =>
          exfalso
          apply hall
          intro i hi; exact (digB_isdig hd).1 _ (List.getElem_mem hi)
     subst hr; clear hz1 HV HC he3; go_enter Tryz.func206, Tryz.ntmps206; go_wp2_with fail
     go_ret
     exact ⟨rfl, rfl⟩
   · have HT : Hid ((!decide (n0 = 48) || decide (L = [48])) = true) := hid (by
      by_cases h1 : n0 = 48
      · have h2 : s.size = 1 := by omega
        have h3 := HSZ.out; have h4 := HC.out; rw [h2, h4, List.length_cons] at h3; have h5 : T = [] := List.length_eq_zero_iff.1 (by omega)
        have h6 := byte0 s L HS.out 0 (by rw [h4]; simp) h0
        have h7 : L = [48] := by
         rw [h4, h5]
         congr 1
         rw [← UInt8.toNat_inj]; have h8 : (s[0]'h0) = c := by rw [h6]; simp only [h4]; rfl
         rw [← h8, hcn0, h1]; rfl
        rw [decide_eq_true h7, Bool.or_true]
      · rw [decide_eq_false h1]; rfl)
     have hz4 : ((1 : Int) < (s.size : Int)) → ((n0 : Int) == 48) = false := fun h => beq_eq_false_iff_ne.2 (by omega)
     by_cases hz5 : 1 < s.size
     focus
      have hz6 : (1 : Int) < (s.size : Int) := by omega
      have hz7 := hz4 hz6
     rotate_left
     focus
      have hz6 : (s.size : Int) ≤ 1 := by omega
      have hz8 : decide ((1 : Int) < (s.size : Int)) = false := decide_eq_false (by omega)
     rotate_left
     all_goals
      clear hz4 hz he3; go_enter Tryz.func206, Tryz.ntmps206; go_wp2_with fail
      go_loop [3] (fun si => ∃ j : Nat, si = .int .i64 j ∧ j ≤ s.size ∧ Hid (∀ i (hi : i < L.length), i < j → 48 ≤ L[i].toNat ∧ L[i].toNat ≤ 57)) (fun si => s.size - (intOf si).toNat)
      case atStart => exact ⟨0, rfl, Nat.zero_le _, hid (fun i hi h => by omega)⟩
      case round =>
       obtain ⟨j, rfl, hj, hG⟩ := hrel; by_cases hlt : j < s.size
       · have hkl : j < L.length := by rw [← HSZ.out]; exact hlt
         obtain ⟨n, hn⟩ : ∃ n, n = (s[j]'hlt).toNat := ⟨_, rfl⟩; have hnl : n = L[j].toNat := by rw [hn, byte0 s L HS.out j hkl hlt]
         have hcn := hn.symm; have hltI : (j : Int) < (s.size : Int) := by omega
         have HB := hid (fun (h : ¬ (48 ≤ n ∧ n ≤ 57)) => HR.out.trans (digB_bad hkl (by rw [← hnl]; exact h)))
         have HG2 : Hid (48 ≤ n ∧ n ≤ 57 → ∀ i (hi : i < L.length), i < j + 1 → 48 ≤ L[i].toNat ∧ L[i].toNat ≤ 57) := hid (fun h i hi hij => by
          rcases Nat.lt_or_eq_of_le (Nat.le_of_lt_succ hij) with h2 | rfl
          · exact hG.out i hi h2
          · rw [← hnl]; exact h)
         clear hn hnl hG; by_cases h1 : n < 48
         · have hr := HB.out (by omega)
           subst hr; have h1I : (n : Int) < 48 := by omega
           go_wp2_with fail
           go_ret
           exact ⟨rfl, rfl⟩
         · have h1I : (48 : Int) ≤ (n : Int) := by omega
           have h1D : decide ((n : Int) < 48) = false := decide_eq_false (by omega)
           by_cases h2 : 57 < n
           · have hr := HB.out (by omega)
             subst hr; have h2I : (57 : Int) < (n : Int) := by omega
             go_wp2_with fail
             go_ret
             exact ⟨rfl, rfl⟩
           · have h2I : (n : Int) ≤ 57 := by omega
             have h2D : decide ((57 : Int) < (n : Int)) = false := decide_eq_false (by omega)
             have NX := hid (HG2.out (by omega))
             go_wp2_with fail
             go_round
             case rel => exact ⟨j + 1, by go_num, by omega, NX⟩
             case measure => simp [intOf]; omega
       · obtain rfl : j = s.size := by omega
         have hr := HR.out.trans (digB_good (fun i hi => hG.out i hi (by rw [HSZ.out]; exact hi)))
         have hr2 := HV.out (HR.out.symm.trans hr); rw [HT.out] at hr2; clear hr hG; subst hr2; go_wp2_with fail
         go_ret
         exact ⟨rfl, rfl⟩
def wholeB (s : ByteArray) : Bool := digB (afterS s).data.toList && !(minusB s && decide ((afterS s).data.toList = [48]))
def textE (s : ByteArray) (den : Bool) : Int := if 16384 < (afterS s).size then 4 else if (digB (afterS s).data.toList && !(minusB s && (den || decide ((afterS s).data.toList = [48]))) && !(den && decide ((afterS s).data.toList = [48]))) = true then 0 else 30
theorem after_le (s : ByteArray) : (afterS s).size ≤ s.size := by
 have h := after_list s; rw [bytes_len _ _ rfl, h, bytes_len s _ rfl]
 split
 · rw [List.length_drop]; omega
 · exact Nat.le_refl _
theorem beq48 (t : ByteArray) : (t.toList == [48]) = decide (t.data.toList = [48]) := by
 rw [ByteArray.toList_eq, Bool.eq_iff_iff, beq_iff_eq, decide_eq_true_iff]
theorem digB_minus {c : UInt8} {L : List UInt8} (hc : c = 45) : digB (c :: L) = false := by
 have := digB_bad (L := c :: L) (i := 0) (by simp) (by subst hc; simp)
 exact this
theorem ewhole (s : ByteArray) (hs : s.size ≤ maxLen) (w : World) : Calls Tryz.prog 205 #[.string s] w fun e w' => e = .returned (.bool (wholeB s)) ∧ w' = w := by
 have hs2 := hs; unfold maxLen at hs2; cases hL : s.data.toList with
 | nil =>
   have hz : s.size = 0 := by rw [bytes_len s _ hL]; rfl
   have hm : minusB s = false := by unfold minusB; rw [hL]; rfl
   have ha : afterS s = s := by unfold afterS; rw [hm]; rfl
   have hr : wholeB s = digB s.data.toList := by unfold wholeB; rw [hm, ha]; simp
   rw [hr]; have A := hid (edigits s hs w); clear hr ha hm hL; generalize digB s.data.toList = D at *; go_enter Tryz.func205, Tryz.ntmps205; go_wp2_with (go_at_call 206; (with_reducible refine A.out.mono ?_); rintro e w' ⟨rfl, hw⟩; obtain rfl := hw.symm)
   go_ret
   exact ⟨rfl, rfl⟩
 | cons c L =>
   have hz := size_pos_of hL; have hzI : (1 : Int) ≤ (s.size : Int) := by omega
   have hzJ : (0 : Int) < (s.size : Int) := by omega
   by_cases hc : c = 45
   · have hm : minusB s = true := by unfold minusB; rw [hL, hc]; rfl
     have ha : afterS s = s.extract 1 s.size := by unfold afterS; rw [if_pos hm]
     have hal : (s.extract 1 s.size).data.toList = L := by rw [← ha, after_list, if_pos hm, hL]; rfl
     have hr : wholeB s = (digB L && !(decide (L = [48]))) := by unfold wholeB; rw [hm, ha, hal, Bool.true_and]
     have hn : (s[0]'hz).toNat = 45 := by rw [byte0 s (c :: L) hL 0 (by simp) hz]; subst hc; rfl
     have hq : (s.toList == [45, 48]) = decide (L = [48]) := by rw [ByteArray.toList_eq, hL, hc, Bool.eq_iff_iff, beq_iff_eq, decide_eq_true_iff]; simp
     have hA := edigits (s.extract 1 s.size) (by rw [← ha]; exact Nat.le_trans (after_le s) hs) w
     rw [hal] at hA; have A := hid hA; rw [hr]; clear hA hr ha hal hm hL hc; generalize decide (L = [48]) = Z at *; generalize digB L = D at *; cases D
     · go_enter Tryz.func205, Tryz.ntmps205; go_wp2_with (go_at_call 206; (with_reducible refine A.out.mono ?_); rintro e w' ⟨rfl, hw⟩; obtain rfl := hw.symm)
       go_ret
       exact ⟨rfl, rfl⟩
     · go_enter Tryz.func205, Tryz.ntmps205; go_wp2_with (go_at_call 206; (with_reducible refine A.out.mono ?_); rintro e w' ⟨rfl, hw⟩; obtain rfl := hw.symm)
       go_ret
       exact ⟨rfl, rfl⟩
   · have hm : minusB s = false := by unfold minusB; rw [hL]; simpa using hc
     have ha : afterS s = s := by unfold afterS; rw [hm]; rfl
     have hr : wholeB s = digB s.data.toList := by unfold wholeB; rw [hm, ha]; simp
     obtain ⟨n, hn⟩ : ∃ n, n = (s[0]'hz).toNat := ⟨_, rfl⟩
     have hnc : n ≠ 45 := by
      rw [hn, byte0 s (c :: L) hL 0 (by simp) hz]
      intro e; exact hc (by rw [← UInt8.toNat_inj]; exact e)
     have hcn := hn.symm; have hI : ((n : Int) == 45) = false := beq_eq_false_iff_ne.2 (by omega)
     rw [hr]; have A := hid (edigits s hs w); clear hn hr ha hm hL hc; generalize digB s.data.toList = D at *; go_enter Tryz.func205, Tryz.ntmps205; go_wp2_with (go_at_call 206; (with_reducible refine A.out.mono ?_); rintro e w' ⟨rfl, hw⟩; obtain rfl := hw.symm)
     all_goals first
      | (exfalso; omega)
      | (go_ret; exact ⟨rfl, rfl⟩)
theorem elong (s : ByteArray) (hs : s.size ≤ maxLen) (w : World) : Calls Tryz.prog 101 #[.string s] w fun e w' => e = .returned (.int .i64 (afterS s).size) ∧ w' = w := by
 have hs2 := hs; unfold maxLen at hs2; cases hL : s.data.toList with
 | nil =>
   have hz : s.size = 0 := by rw [bytes_len s _ hL]; rfl
   have hm : minusB s = false := by unfold minusB; rw [hL]; rfl
   have ha : afterS s = s := by unfold afterS; rw [hm]; rfl
   rw [ha, hz]; clear ha hm hL; go_enter Tryz.func101, Tryz.ntmps101; go_wp2_with fail
   go_ret
   exact ⟨rfl, rfl⟩
 | cons c L =>
   have hz := size_pos_of hL; have hzJ : (0 : Int) < (s.size : Int) := by omega
   by_cases hc : c = 45
   · have hm : minusB s = true := by unfold minusB; rw [hL, hc]; rfl
     have hn : (s[0]'hz).toNat = 45 := by rw [byte0 s (c :: L) hL 0 (by simp) hz]; subst hc; rfl
     have ha : ((afterS s).size : Int) = (s.size : Int) - 1 := by
      have : (afterS s).size = s.size - 1 := by rw [bytes_len _ _ rfl, after_list, if_pos hm, bytes_len s _ rfl, List.length_drop]
      omega
     rw [ha]; clear ha hm hL hc; go_enter Tryz.func101, Tryz.ntmps101; go_wp2_with fail
     go_ret
     exact ⟨rfl, rfl⟩
   · have hm : minusB s = false := by unfold minusB; rw [hL]; simpa using hc
     have ha : afterS s = s := by unfold afterS; rw [hm]; rfl
     obtain ⟨n, hn⟩ : ∃ n, n = (s[0]'hz).toNat := ⟨_, rfl⟩
     have hnc : n ≠ 45 := by
      rw [hn, byte0 s (c :: L) hL 0 (by simp) hz]
      intro e; exact hc (by rw [← UInt8.toNat_inj]; exact e)
     have hcn := hn.symm; have hI : ((n : Int) == 45) = false := beq_eq_false_iff_ne.2 (by omega)
     rw [ha]; clear hn ha hm hL hc; go_enter Tryz.func101, Tryz.ntmps101; go_wp2_with fail
     all_goals first
      | (exfalso; omega)
      | (go_ret; exact ⟨rfl, rfl⟩)
theorem btext139 (s : ByteArray) (den : Bool) (hs : s.size ≤ maxLen) (w : World) : Calls Tryz.prog 139 #[.string s, .bool den] w fun e w' => e = .returned (.int .i64 (textE s den)) ∧ w' = w := by
 have A := hid (bcut2 s hs w); have B := hid (bdigits (afterS s) (Nat.le_trans (after_le s) hs) w); have hsz := Nat.le_trans (after_le s) hs; unfold maxLen at hsz; unfold textE; have hZ := beq48 (afterS s); obtain ⟨Z, hZ2⟩ : ∃ Z, Z = decide ((afterS s).data.toList = [48]) := ⟨_, rfl⟩; rw [← hZ2] at hZ ⊢; clear hZ2; generalize digB (afterS s).data.toList = D at *; generalize afterS s = t at *; generalize minusB s = m at *; by_cases hb : 16384 < t.size
 · rw [if_pos hb]; have hbI : (16384 : Int) < (t.size : Int) := by omega
   clear hb hZ; go_enter Tryz.func139, Tryz.ntmps139; go_wp2_with first | (go_at_call 190; (with_reducible refine A.out.mono ?_); rintro e w' ⟨rfl, hw⟩; obtain rfl := hw.symm) | (go_at_call 191; (with_reducible refine B.out.mono ?_); rintro e w' ⟨rfl, hw⟩; obtain rfl := hw.symm)
   go_ret
   exact ⟨rfl, rfl⟩
 · rw [if_neg hb]; have hbI : (t.size : Int) ≤ 16384 := by omega
   have hbD : decide ((16384 : Int) < (t.size : Int)) = false := decide_eq_false (by omega)
   clear hb; cases D <;> cases m <;> cases den <;> cases Z <;>
   · go_enter Tryz.func139, Tryz.ntmps139; go_wp2_with first | (go_at_call 190; (with_reducible refine A.out.mono ?_); rintro e w' ⟨rfl, hw⟩; obtain rfl := hw.symm) | (go_at_call 191; (with_reducible refine B.out.mono ?_); rintro e w' ⟨rfl, hw⟩; obtain rfl := hw.symm)
     go_ret
     exact ⟨rfl, rfl⟩
theorem etext152 (s : ByteArray) (den : Bool) (hs : s.size ≤ maxLen) (w : World) : Calls Tryz.prog 152 #[.string s, .bool (!den)] w fun e w' => e = .returned (.int .i64 (textE s den)) ∧ w' = w := by
 have A := hid (elong s hs w); have B := hid (ewhole s hs w); have C := hid (edigits s hs w); have hsz := Nat.le_trans (after_le s) hs; unfold maxLen at hsz
 have hT : den = true → (if (digB (afterS s).data.toList && !(minusB s && (den || decide ((afterS s).data.toList = [48]))) && !(den && decide ((afterS s).data.toList = [48]))) = true then (0 : Int) else 30) = if (digB s.data.toList && !decide (s.data.toList = [48])) = true then 0 else 30 := by
  intro h; rw [h]; cases hm : minusB s with
  | false =>
    have ha : afterS s = s := by unfold afterS; rw [hm]; rfl
    rw [ha]
    simp
  | true =>
    cases hL : s.data.toList with
    | nil => unfold minusB at hm; rw [hL] at hm; simp at hm
    | cons c L =>
      have hc : c = 45 := by unfold minusB at hm; rw [hL] at hm; simpa using hm
      rw [digB_minus hc]
      simp
 have hF : den = false → (if (digB (afterS s).data.toList && !(minusB s && (den || decide ((afterS s).data.toList = [48]))) && !(den && decide ((afterS s).data.toList = [48]))) = true then (0 : Int) else 30) = if wholeB s = true then 0 else 30 := by
  intro h; rw [h]; unfold wholeB; simp only [Bool.false_or, Bool.false_and, Bool.not_false, Bool.and_true]
 unfold textE; by_cases hb : 16384 < (afterS s).size
 · rw [if_pos hb]; have hbI : (16384 : Int) < ((afterS s).size : Int) := by omega
   clear hb hT hF; generalize afterS s = t at *; go_enter Tryz.func152, Tryz.ntmps152; go_wp2_with first | (go_at_call 101; (with_reducible refine A.out.mono ?_); rintro e w' ⟨rfl, hw⟩; obtain rfl := hw.symm) | (go_at_call 205; (with_reducible refine B.out.mono ?_); rintro e w' ⟨rfl, hw⟩; obtain rfl := hw.symm) | (go_at_call 206; (with_reducible refine C.out.mono ?_); rintro e w' ⟨rfl, hw⟩; obtain rfl := hw.symm)
   go_ret
   exact ⟨rfl, rfl⟩
 · rw [if_neg hb]; have hbI : ((afterS s).size : Int) ≤ 16384 := by omega
   have hbD : decide ((16384 : Int) < ((afterS s).size : Int)) = false := decide_eq_false (by omega)
   clear hb; cases den with
   | true =>
     rw [hT rfl]; clear hT hF; have hZ := beq48 s; generalize decide (s.data.toList = [48]) = Z at *; generalize digB s.data.toList = D at *; generalize afterS s = t at *; cases D <;> cases Z <;>
     · go_enter Tryz.func152, Tryz.ntmps152; go_wp2_with first | (go_at_call 101; (with_reducible refine A.out.mono ?_); rintro e w' ⟨rfl, hw⟩; obtain rfl := hw.symm) | (go_at_call 205; (with_reducible refine B.out.mono ?_); rintro e w' ⟨rfl, hw⟩; obtain rfl := hw.symm) | (go_at_call 206; (with_reducible refine C.out.mono ?_); rintro e w' ⟨rfl, hw⟩; obtain rfl := hw.symm)
       go_ret
       exact ⟨rfl, rfl⟩
   | false =>
     rw [hF rfl]; clear hT hF; generalize wholeB s = D at *; generalize afterS s = t at *; cases D <;>
     · go_enter Tryz.func152, Tryz.ntmps152; go_wp2_with first | (go_at_call 101; (with_reducible refine A.out.mono ?_); rintro e w' ⟨rfl, hw⟩; obtain rfl := hw.symm) | (go_at_call 205; (with_reducible refine B.out.mono ?_); rintro e w' ⟨rfl, hw⟩; obtain rfl := hw.symm) | (go_at_call 206; (with_reducible refine C.out.mono ?_); rintro e w' ⟨rfl, hw⟩; obtain rfl := hw.symm)
       go_ret
       exact ⟨rfl, rfl⟩
end Go.Proofs.YthjeejnggpjnjaaGreatDoor
