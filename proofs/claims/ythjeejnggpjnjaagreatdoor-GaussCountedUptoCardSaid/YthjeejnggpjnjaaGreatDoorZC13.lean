/- A part: AO, AP, AR. -/
import Derived.Test.YthjeejnggpjnjaaGreatDoorZC12
import Derived.Lib.Strings
import Derived.Lib.IndexBytes
import Derived.Laws.BytesString
set_option linter.unusedSimpArgs false
set_option linter.unusedVariables false
set_option maxRecDepth 100000
set_option maxHeartbeats 16000000
set_option synthInstance.maxHeartbeats 2000000
set_option synthInstance.maxSize 100000
namespace Go.Proofs.YthjeejnggpjnjaaGreatDoor
open Go.RowKit
def ReadC (l : List UInt8) : Prop := ∀ (s : ByteArray) (w : World), s.data.toList = l → Calls Tryz.prog 230 #[.string s, .int .i64 10] w fun e w' => ∃ v, e = .returned (.tuple #[v, .bool true]) ∧ Wd w' v (words (dval l)) ∧ Below w.heap.size w w'
def RdO (w : World) (l : List UInt8) (sz : Nat) (v : Value) (j m t c : Nat) (wr : World) : Prop :=
 Below w.heap.size w wr ∧ Ow wr w.heap.size v (words m) ∧ dval (l.take j) = m * t + c ∧ (j = sz → t = 1 ∧ c = 0) ∧ m ≤ dval l
theorem bread_short (l : List UInt8) (hl : isdig l) (hne : l ≠ []) (hle : l.length ≤ 300) : ReadC l := by
 intro s w hs; have hsz : s.size = l.length := bytes_len s _ hs; have hpos : 0 < l.length := List.length_pos_iff.2 hne; have hsz2 : s.size ≤ 300 := by omega
 have HL := hid hl; have HS := hid hs; have HD : Hid (dval l < 10 ^ l.length) := hid (dval_lt hl); have HSZ := hid hsz; clear hl hs hne hsz; go_enter Tryz.func230, Tryz.ntmps230; go_wp2_with fail
 go_loopw [11, 12, 13, 14] (fun s10 s11 s12 s13 wr => ∃ j m t c : Nat, s11 = .int .u32 t ∧ s12 = .int .u32 c ∧ s13 = .int .i64 j ∧ j ≤ s.size ∧ 1 ≤ t ∧ t ≤ 429496729 ∧ c < t ∧ Hid (RdO w l s.size s10 j m t c wr)) (fun _ _ _ s13 _ => s.size - (intOf s13).toNat)
 case atStart => exact ⟨0, 0, 1, 0, rfl, rfl, rfl, by omega, by omega, by omega, by omega, hid ⟨Below.refl _ _, by rw [words_0]; exact Ow.nil _ _, by simp [dval], by have := HSZ.out; omega, by omega⟩⟩
 case round =>
  obtain ⟨j, m, t, c, rfl, rfl, rfl, hj2, ht1, ht2, hct, hR⟩ := hrel; by_cases hlt : j < s.size
  · have hkl : j < l.length := by have := HSZ.out; omega
    obtain ⟨n, hn⟩ : ∃ n, n = (s[j]'hlt).toNat := ⟨_, rfl⟩
    have hnl : n = l[j].toNat := by
     have hb := byte_at s [] l HS.out j hkl (by show 0 + j < _; omega)
     rw [hn]
     congr 1
     rw [← hb]
     congr 1
     simp
    have hn2 := HL.out _ (List.getElem_mem hkl); rw [← hnl] at hn2; obtain ⟨dd, hdd⟩ : ∃ dd, n = dd + 48 := ⟨n - 48, by omega⟩
    have hd9 : dd ≤ 9 := by omega
    have hcn := hn.symm
    have ST : Hid (dval (l.take (j + 1)) = (m * t + c) * 10 + dd) := hid (by
     rw [take_snoc_d l j hkl, ← hnl, hR.out.2.2.1, hdd]
     omega)
    have hm2 : (words m).length ≤ 549755813888 := by
     have h1 := len_mono hR.out.2.2.2.2; have h2 := dec_len HD.out; omega
    have MS := bmulSmall w.heap.size _ m (t * 10) (c * 10 + dd) wr hR.out.2.1 hm2 (by omega) (by omega) (by omega) hR.out.1.size
    rw [show ((t * 10 : Nat) : Int) = (t : Int) * 10 by omega, show ((c * 10 + dd : Nat) : Int) = (c : Int) * 10 + dd by omega] at MS
    have NX : Hid (∀ v wn, Below w.heap.size wr wn → Ow wn w.heap.size v (words (m * (t * 10) + (c * 10 + dd))) → RdO w l s.size v (j + 1) (m * (t * 10) + (c * 10 + dd)) 1 0 wn) := hid (by
     intro v wn h1 h2; have e : (m * t + c) * 10 + dd = m * (t * 10) + (c * 10 + dd) := by rw [Nat.add_mul, Nat.mul_assoc]; omega
     have hd := ST.out; rw [e] at hd; refine ⟨hR.out.1.trans h1, h2, by rw [hd]; omega, fun _ => ⟨rfl, rfl⟩, ?_⟩
     rw [← hd]; exact dval_take_le _ _)
    have NS : Hid (∀ v, j + 1 ≠ s.size → RdO w l s.size v j m t c wr → RdO w l s.size v (j + 1) m (t * 10) (c * 10 + dd) wr) := hid (by
     intro v h1 h2; have e : (m * t + c) * 10 + dd = m * (t * 10) + (c * 10 + dd) := by rw [Nat.add_mul, Nat.mul_assoc]; omega
     have hd := ST.out; rw [e] at hd; exact ⟨h2.1, h2.2.1, hd, fun h => absurd h h1, h2.2.2.2.2⟩)
    have hltI : (j : Int) < (s.size : Int) := by omega
    have HDD := hid hdd; clear hn hnl hn2 hm2 ST hdd; by_cases hbig : 429496729 < t * 10
    · have hbI : (429496729 : Int) < (t : Int) * 10 := by omega
      go_wp2_with (first | (go_at_call 243; (with_reducible refine (bworth n dd HDD.out hd9 _).mono ?_); rintro e w' ⟨rfl, hw⟩; obtain rfl := hw.symm) | (go_at_call 244; (with_reducible refine MS.mono ?_); rintro e wn ⟨vn, rfl, hvn, hbn⟩))
      go_roundw
      case rel => exact ⟨j + 1, _, 1, 0, rfl, rfl, by go_num, by omega, by omega, by omega, by omega, hid (NX.out _ _ hbn hvn)⟩
      case measure => simp [intOf]; omega
    · have hbI : decide ((429496729 : Int) < (t : Int) * 10) = false := decide_eq_false (by omega)
      have hb2 : t * 10 ≤ 429496729 := by omega
      by_cases hlast : j + 1 = s.size
      · have hlI : ((j : Int) == (s.size : Int) - 1) = true := beq_iff_eq.2 (by omega)
        have hl2 : j + 1 ≤ s.size := by omega
        clear NS hb2 hbig hlast; go_wp2_with (first | (go_at_call 243; (with_reducible refine (bworth n dd HDD.out hd9 _).mono ?_); rintro e w' ⟨rfl, hw⟩; obtain rfl := hw.symm) | (go_at_call 244; (with_reducible refine MS.mono ?_); rintro e wn ⟨vn, rfl, hvn, hbn⟩))
        go_roundw
        case rel => exact ⟨j + 1, _, 1, 0, rfl, rfl, by go_num, by omega, by omega, by omega, by omega, hid (NX.out _ _ hbn hvn)⟩
        case measure => simp [intOf]; omega
      · have hlI : ((j : Int) == (s.size : Int) - 1) = false := beq_eq_false_iff_ne.2 (by omega)
        have hlI2 : (j : Int) + 1 ≠ (s.size : Int) := by omega
        have RR := hid (NS.out _ hlast hR.out); have HB2 := hid hb2; clear NX MS hbig hb2 hlast; go_wp2_with (go_at_call 243; (with_reducible refine (bworth n dd HDD.out hd9 _).mono ?_); rintro e w' ⟨rfl, hw⟩; obtain rfl := hw.symm)
        have hb3 := HB2.out; go_roundw
        case rel => exact ⟨j + 1, m, t * 10, c * 10 + dd, by go_num, by go_num, by go_num, by omega, by omega, hb3, by omega, RR⟩
        case measure => simp [intOf]; omega
  · obtain rfl : j = s.size := by omega
    obtain ⟨r1, r2, r3, r4, r5⟩ := hR.out; obtain ⟨rfl, rfl⟩ := r4 rfl
    have hm : m = dval l := by
     rw [HSZ.out, List.take_length] at r3; omega
    rw [hm] at r2; have R2 := r2.wd.1; clear r2 r3 r4 r5 hm hR; go_wp2_with fail
    go_ret2
    exact ⟨_, rfl, R2, r1⟩
theorem bread_long (l : List UInt8) (hl : isdig l) (h300 : 300 < l.length) (hle : l.length ≤ 1073741824) (I1 : ReadC (l.take (l.length - l.length / 2))) (I2 : ReadC (l.drop (l.length - l.length / 2))) : ReadC l := by
 intro s w hs; have hsz : s.size = l.length := bytes_len s _ hs; obtain ⟨hh, hhe⟩ : ∃ hh, hh = l.length / 2 := ⟨_, rfl⟩; obtain ⟨kk, hkk⟩ : ∃ kk, kk = l.length - hh := ⟨_, rfl⟩; rw [← hhe, ← hkk] at I1 I2; have e1 : (s.size : Int) / 2 = (hh : Int) := by omega
 have e2 : (s.size : Int) - (hh : Int) = (kk : Int) := by omega
 have hhB : hh ≤ 1073741824 := by omega
 have hks : kk ≤ s.size := by omega
 have XT : Hid ((s.extract 0 kk).data.toList = l.take kk) := hid (by
  rw [Lib.extract_data, hs, Nat.sub_zero, List.drop_zero])
 have XD : Hid ((s.extract kk s.size).data.toList = l.drop kk) := hid (by
  rw [Lib.extract_to_end, hs])
 have dsp : dval l = dval (l.take kk) * 10 ^ hh + dval (l.drop kk) := by
  conv => lhs; rw [← List.take_append_drop kk l, dval_append, List.length_drop]
  rw [show l.length - kk = hh by omega, Nat.mul_comm]
 have lt1 := dec_len (dval_lt (l := l.take kk) (fun c hc => hl c (List.mem_of_mem_take hc)))
 have lt2 := dec_len (dval_lt (l := l.drop kk) (fun c hc => hl c (List.mem_of_mem_drop hc)))
 rw [List.length_take] at lt1; rw [List.length_drop] at lt2; have lp := pow10_len hh; have lm := mul_len (dval (l.take kk)) (10 ^ hh); have MU := hid (fun v u w' (q1 : Wd w' v (words (dval (l.take kk)))) (q2 : Wd w' u (words (10 ^ hh))) => bmulW v u _ _ w' q1 q2 (by omega))
 have AD := hid (fun v u w' (q1 : Wd w' v (words (dval (l.take kk) * 10 ^ hh))) (q2 : Wd w' u (words (dval (l.drop kk)))) => badd v u _ _ w' q1 q2 (by omega) (by omega))
 rw [← dsp] at AD; have R1 := hid (fun s w (h : s.data.toList = l.take kk) => I1 s w h)
 have R2 := hid (fun s w (h : s.data.toList = l.drop kk) => I2 s w h)
 have h300I : (300 : Int) < (s.size : Int) := by omega
 clear hs hsz hhe hkk I1 I2 dsp lt1 lt2 lp lm hl h300; go_enter Tryz.func230, Tryz.ntmps230; go_wp2_with (first | (go_at_call 230; (with_reducible refine (R1.out _ _ ?_).mono ?_); (focus (exact XT.out)); rintro e w1 ⟨v1, rfl, h1, hb1⟩) | (go_at_call 230; (with_reducible refine (R2.out _ _ ?_).mono ?_); (focus (exact XD.out)); rintro e w2 ⟨v2, rfl, h2, hw2⟩; have hb2 := Below.trans hb1 (below_low hw2 hb1.size); have h12 := h1.below hw2) | (go_at_call 242; (with_reducible refine (bpower hh hhB _).mono ?_); rintro e w3 ⟨v3, rfl, h3, hw3⟩; have hb3 := Below.trans hb2 (below_low hw3 hb2.size); have h13 := h12.below hw3; have h23 := h2.below hw3) | (go_at_call 142; (with_reducible refine (MU.out _ _ _ h13 h3).mono ?_); rintro e w4 ⟨v4, rfl, h4, -, hw4⟩; have hb4 := Below.trans hb3 (below_low hw4 hb3.size); have h24 := h23.below hw4) | (go_at_call 197; (with_reducible refine (AD.out _ _ _ h4 h24).mono ?_); rintro e w5 ⟨v5, rfl, h5, -, hw5⟩; have hb5 := Below.trans hb4 (below_low hw5 hb4.size)))
 go_ret2
 exact ⟨_, rfl, h5, hb5⟩
theorem bread (l : List UInt8) (hl : isdig l) (hne : l ≠ []) (hle : l.length ≤ 1073741824) : ReadC l := by
 induction hn : l.length using Nat.strongRecOn generalizing l with
 | _ n ih =>
   by_cases h : l.length ≤ 300
   · exact bread_short l hl hne h
   · refine bread_long l hl (by omega) hle (ih _ ?_ _ (fun c hc => hl c (List.mem_of_mem_take hc)) ?_ ?_ rfl) (ih _ ?_ _ (fun c hc => hl c (List.mem_of_mem_drop hc)) ?_ ?_ rfl)
     · rw [List.length_take]; omega
     · intro e; have := congrArg List.length e; rw [List.length_take] at this; simp at this; omega
     · rw [List.length_take]; omega
     · rw [List.length_drop]; omega
     · intro e; have := congrArg List.length e; rw [List.length_drop] at this; simp at this; omega
     · rw [List.length_drop]; omega
theorem bsetstrN (gz : Nat) (z0 z1 : Value) (s : ByteArray) (l : List UInt8) (w : World) (hz : Bk w gz [z0, z1] 86) (hs : s.data.toList = ([45] : List UInt8) ++ l) (hl : isdig l) (hne : l ≠ []) (hle : l.length ≤ 1073741824) :
 Calls Tryz.prog 192 #[.pointer (some ⟨gz, 0, none⟩), .string s, .int .i64 10] w fun e w' => e = .returned (.tuple #[.pointer (some ⟨gz, 0, none⟩), .bool true]) ∧ In 86 w' gz (sg true (dval l)) ∧ Keeps w.heap.size [gz] w w' := by
 have hsz : s.size = 1 + l.length := by rw [bytes_len s _ hs]; simp ; omega
 have hpos : 0 < l.length := List.length_pos_iff.2 hne; have h0s : 0 < s.size := by omega
 have hc0 : (s[0]'h0s).toNat = 45 := by
  have : s[0]'h0s = 45 := by
   show s.data[0]'h0s = 45
   rw [← Array.getElem_toList]; simp only [hs]; rfl
  rw [this]; rfl
 have e1 : ((1 : Int) == (s.size : Int)) = false := beq_eq_false_iff_ne.2 (by omega)
 have HS := hid hs; have RD := hid (fun s w (h : s.data.toList = l) => bread l hl hne hle s w h)
 have XD : Hid ((s.extract 1 s.size).data.toList = l) := hid (by
  rw [Lib.extract_to_end, hs]; rfl)
 have SI := hid (fun v w' (h : Below w.heap.size w w') (q : Wd w' v (words (dval l))) => bisetI gz z0 z1 true v (dval l) w' (hz.below h) q (by have := dec_len (dval_lt hl); omega) (sg true (dval l)) rfl)
 have hsz2 : 1 ≤ s.size := by omega
 clear hl hs hne hz hsz; go_enter Tryz.func192, Tryz.ntmps192; go_wp2_with (first | (go_at_call 230; (with_reducible refine (RD.out _ _ ?_).mono ?_); (focus (first | exact XD.out | exact HS.out)); rintro e w1 ⟨v1, rfl, h1, hb1⟩) | (go_at_call 171; (with_reducible refine (SI.out _ _ hb1 h1).mono ?_); rintro e w3 ⟨rfl, hI3, hk3⟩))
 go_ret2
 exact ⟨rfl, hI3, (Keeps.of_below hb1).trans (hk3.mono hb1.size (fun _ _ h => h))⟩
theorem bsetstrP (gz : Nat) (z0 z1 : Value) (s : ByteArray) (l : List UInt8) (w : World) (hz : Bk w gz [z0, z1] 86) (hs : s.data.toList = ([] : List UInt8) ++ l) (hl : isdig l) (hne : l ≠ []) (hle : l.length ≤ 1073741824) :
 Calls Tryz.prog 192 #[.pointer (some ⟨gz, 0, none⟩), .string s, .int .i64 10] w fun e w' => e = .returned (.tuple #[.pointer (some ⟨gz, 0, none⟩), .bool true]) ∧ In 86 w' gz (sg false (dval l)) ∧ Keeps w.heap.size [gz] w w' := by
 have hsz : s.size = 0 + l.length := by rw [bytes_len s _ hs]; simp
 have hpos : 0 < l.length := List.length_pos_iff.2 hne; have h0s : 0 < s.size := by omega
 obtain ⟨n0, hn0⟩ : ∃ n0, n0 = (s[0]'h0s).toNat := ⟨_, rfl⟩; have hc0 := hn0.symm
 have hn1 : 48 ≤ n0 ∧ n0 ≤ 57 := by
  have hb := byte_at s [] l hs 0 hpos (by simp; omega)
  have hb2 : s[0]'h0s = l[0] := hb; rw [hn0, hb2]; exact hl _ (List.getElem_mem _)
 have e2 : ((n0 : Int) == 45) = false := beq_eq_false_iff_ne.2 (by omega)
 have e3 : ((n0 : Int) == 43) = false := beq_eq_false_iff_ne.2 (by omega)
 have e1 : ((0 : Int) == (s.size : Int)) = false := beq_eq_false_iff_ne.2 (by omega)
 clear hn0 hn1; have HS := hid hs; have RD := hid (fun s w (h : s.data.toList = l) => bread l hl hne hle s w h)
 have XD : Hid ((s.extract 0 s.size).data.toList = l) := hid (by
  rw [Lib.extract_to_end, hs]; rfl)
 have SI := hid (fun v w' (h : Below w.heap.size w w') (q : Wd w' v (words (dval l))) => bisetI gz z0 z1 false v (dval l) w' (hz.below h) q (by have := dec_len (dval_lt hl); omega) (sg false (dval l)) rfl)
 have hsz2 : 0 ≤ s.size := by omega
 clear hl hs hne hz hsz; go_enter Tryz.func192, Tryz.ntmps192; go_wp2_with (first | (go_at_call 230; (with_reducible refine (RD.out _ _ ?_).mono ?_); (focus (first | exact XD.out | exact HS.out)); rintro e w1 ⟨v1, rfl, h1, hb1⟩) | (go_at_call 171; (with_reducible refine (SI.out _ _ hb1 h1).mono ?_); rintro e w3 ⟨rfl, hI3, hk3⟩))
 go_ret2
 exact ⟨rfl, hI3, (Keeps.of_below hb1).trans (hk3.mono hb1.size (fun _ _ h => h))⟩
theorem padf_succ (m x : Nat) : padf (m + 1) x = padf m (x / 10) ++ [UInt8.ofNat (48 + x % 10)] := by
 unfold padf; by_cases h : x = 0
 · subst h; rw [Nat.zero_div, figs_0]; simp only [List.length_nil, Nat.sub_zero, List.append_nil]; rw [List.replicate_succ']; rfl
 · rw [figs_pos h, List.length_append, List.length_singleton, Nat.add_sub_add_right, List.append_assoc]
theorem padf_zero (x : Nat) : padf 0 x = figs x := by unfold padf; simp
theorem figs_words (n : Nat) : (figs n).length ≤ 10 * (words n).length := by
 refine figs_len.1 (Nat.lt_of_lt_of_le (words_lt n) ?_)
 rw [Nat.pow_mul]; exact Nat.pow_le_pow_left (by decide) _
theorem tell_more {n q r : Nat} (hq : q = n / 1000000000) (hr : r = n % 1000000000) (h : q ≠ 0) : figs n = figs q ++ padf 9 r := by
 rw [hq, hr]; exact figs_split n 9 (by rw [hq] at h; exact h)
theorem tell_last {n q r : Nat} (hq : q = n / 1000000000) (hr : r = n % 1000000000) (h : q = 0) : figs n = figs r := by
 congr 1
 omega
def u8s (L : List UInt8) : List Value := L.map fun c : UInt8 => Value.int .u8 c.toNat
theorem u8s_app (L : List UInt8) (c : UInt8) : u8s (L ++ [c]) = u8s L ++ [Value.int .u8 c.toNat] := by unfold u8s; rw [List.map_append]; rfl
theorem u8s_len (L : List UInt8) : (u8s L).length = L.length := by simp [u8s]
def Ob (w : World) (B : Nat) (v : Value) (L : List UInt8) : Prop := w.ownsRow B 5 1 v L.length (u8s L)
theorem Ob.nil (w : World) (B : Nat) : Ob w B (.slice none 0 0) [] := ⟨rfl, .inl ⟨rfl, rfl⟩⟩
theorem Ob.keep {w w' : World} {B0 B g : Nat} {v : Value} {L : List UInt8} (h : Ob w B0 v L) (k : Keeps B [g] w w') (hB : w.heap.size ≤ B) (hg : v.ownBlock ≠ some g) : Ob w' B0 v L := by
 rcases h.2 with h0 | ⟨q, cap, cur, he, hq, hb, h1, h2, h3, h4⟩
 · exact ⟨h.1, .inl h0⟩
 · subst he
   exact ⟨h.1, .inr ⟨q, cap, cur, rfl, hq, (k.block q (Nat.lt_of_lt_of_le (lt_of_block hb) hB) (by
    intro hm; rw [List.mem_singleton] at hm; exact hg (by rw [hm]; rfl))).trans hb, h1, h2, h3, h4⟩⟩
theorem Ob.below {w w' : World} {B0 : Nat} {v : Value} {L : List UInt8} (h : Ob w B0 v L) (k : Below w.heap.size w w') : Ob w' B0 v L := by
 rcases h.2 with h0 | ⟨q, cap, cur, he, hq, hb, h1, h2, h3, h4⟩
 · exact ⟨h.1, .inl h0⟩
 · subst he; exact ⟨h.1, .inr ⟨q, cap, cur, rfl, hq, (k.block q (lt_of_block hb)).trans hb, h1, h2, h3, h4⟩⟩
theorem Ob.apart {w : World} {B0 g : Nat} {v : Value} {L : List UInt8} {M : List Nat} (h : Ob w B0 v L) (r : Ro w g M) : v.ownBlock ≠ some g := by
 intro e; rcases h.2 with ⟨rfl, -⟩ | ⟨q, cap, cur, rfl, hq, hb, -⟩
 · cases e
 · simp only [Value.ownBlock, Option.some.injEq] at e; subst e; have := hb.symm.trans r
   simp at this
theorem Ro.grown {w w' : World} {v : Option Nat} {g : Nat} {M : List Nat} (r : Ro w g M) (h : w.grownBy w' v) (hv : v ≠ some g) : Ro w' g M := (h.block g r.lt (fun e => hv e.symm)).trans r
theorem wok_split {Q : List Nat} (h : Wok Q) : ∃ Z, Q = words (val Q) ++ Z := by
 induction Q with
 | nil => exact ⟨[], by rw [show val [] = 0 from rfl, words_0]; rfl⟩
 | cons x Q ih =>
   obtain ⟨Z, hZ⟩ := ih h.tail; have hx := h.head; by_cases h0 : x + 4294967296 * val Q = 0
   · exact ⟨x :: Q, by rw [val, h0, words_0]; rfl⟩
   · refine ⟨Z, ?_⟩
     rw [val, words_pos h0, show (x + 4294967296 * val Q) % 4294967296 = x by omega, show (x + 4294967296 * val Q) / 4294967296 = val Q by omega]
     rw [List.cons_append, ← hZ]
def TellI (w : World) (g cap N n : Nat) (D : List UInt8) (vb : Value) (wr : World) : Prop :=
 ∃ Z, Ro wr g (words n ++ Z) ∧ (words n).length ≤ cap ∧ Ob wr w.heap.size vb D ∧ figs N = figs n ++ D.reverse ∧ Below w.heap.size w wr ∧ n ≤ N
def DivI (w : World) (g n : Nat) (Z : List Nat) (D : List UInt8) (vb : Value) (j r : Nat) (Q : List Nat) (wr : World) : Prop :=
 Q.length + j = (words n).length ∧ Wok Q ∧ r < 1000000000 ∧ val ((words n).drop j) = 1000000000 * val Q + r ∧ Ro wr g ((words n).take j ++ (Q ++ Z)) ∧ Ob wr w.heap.size vb D ∧ Below w.heap.size w wr
def lenV : Value → Nat
 | .slice _ n _ => n
 | _ => 0
theorem Ob.lenV {w : World} {B : Nat} {v : Value} {L : List UInt8} (h : Ob w B v L) : lenV v = L.length := by
 rcases h.2 with ⟨rfl, h0⟩ | ⟨q, cap, cur, rfl, -⟩
 · exact h0.symm
 · rfl
theorem Ob.of_own {w : World} {B : Nat} {v : Value} {D D' DD : List UInt8} {b : Nat} (hDD : D ++ D' = DD) (hb : b < 256) (h : w.ownsRow B 5 1 v (DD.length + 1) (u8s DD ++ [.int .u8 (b : Int)])) : Ob w B v (D ++ (D' ++ [UInt8.ofNat b])) := by
 unfold Ob; rw [← List.append_assoc, hDD, List.length_append, List.length_singleton, u8s_app]; rw [show (UInt8.ofNat b).toNat = b by rw [UInt8.toNat_ofNat']; omega]
 exact h
theorem idx_fig (d : Nat) (h : d < 10) (w : World) : (Instr.index 9 (.string { data := #[48, 49, 50, 51, 52, 53, 54, 55, 56, 57, 97, 98, 99, 100, 101, 102, 103, 104, 105, 106, 107, 108, 109, 110, 111, 112, 113, 114, 115, 116, 117, 118, 119, 120, 121, 122] }) (.int .u32 d)).run Tryz.prog w = .ok (.int .u8 ((48 + d : Nat) : Int)) w := by
 have : d = 0 ∨ d = 1 ∨ d = 2 ∨ d = 3 ∨ d = 4 ∨ d = 5 ∨ d = 6 ∨ d = 7 ∨ d = 8 ∨ d = 9 := by omega
 rcases this with rfl | rfl | rfl | rfl | rfl | rfl | rfl | rfl | rfl | rfl
 all_goals (clear h; show Sem.run _ _ _ = _; first | kernel_rfl | rfl)
theorem info5 : (Tryz.prog.info? 5).map (fun i => (i.zero, i.size, i.bytes)) = some (some (.int .u8 0), 1, 1) := by kernel_rfl
def Rb (w : World) (g : Nat) (L : List UInt8) : Prop := w.heap[g]? = some (.cells (u8s L).toArray 5 (0, 0))
theorem Rb.lt {w : World} {g : Nat} {L : List UInt8} (h : Rb w g L) : g < w.heap.size := lt_of_block h
theorem u8s_get (L : List UInt8) (i : Nat) : (u8s L)[i]? = (L[i]?).map fun c : UInt8 => Value.int .u8 c.toNat := by simp [u8s]
theorem Rb.cell {w : World} {g : Nat} {L : List UInt8} (h : Rb w g L) {i : Nat} {c : UInt8} (hx : L[i]? = some c) : w.cell? ⟨g, i, none⟩ = some (.int .u8 c.toNat) := by
 rw [cell_of_block h, List.getElem?_toArray, u8s_get, hx]; rfl
theorem Rb.free {w : World} {g : Nat} {L : List UInt8} (h : Rb w g L) (i : Nat) : w.frozen? ⟨g, i, none⟩ = false := free_of_block h i
theorem Rb.set {w : World} {g : Nat} {L : List UInt8} (h : Rb w g L) (i : Nat) (c : UInt8) : Rb (w.setCell ⟨g, i, none⟩ (.int .u8 c.toNat)) g (L.set i c) := by
 have := set_of_block h i (.int .u8 c.toNat); rw [List.setIfInBounds_toArray] at this; unfold Rb u8s; rw [List.map_set]; exact this
theorem Ob.form {w : World} {B : Nat} {v : Value} {L : List UInt8} (h : Ob w B v L) (h0 : 0 < L.length) : ∃ g cap, v = .slice (some ⟨g, 0, none⟩) L.length cap ∧ B ≤ g ∧ L.length ≤ cap ∧ g < w.heap.size ∧ ∀ (i : Nat) (c : UInt8), L[i]? = some c → w.cell? ⟨g, i, none⟩ = some (.int .u8 c.toNat) := by
 rcases h.2 with ⟨-, h1⟩ | ⟨g, cap, cur, h1, h2, hb, h3, -, -, h4⟩
 · omega
 · refine ⟨g, cap, h1, h2, h3, lt_of_block hb, fun i c hx => ?_⟩
   have := congrArg (fun t => t[i]?) h4
   simp only [u8s_get, hx, Option.map_some] at this; rw [Nat.mul_one, List.getElem?_take] at this
   split at this
   · rw [Array.getElem?_toList] at this; rw [cell_of_block hb, this]
   · cases this
theorem made_bytes {w : World} {g B n : Nat} (h : w.ownsRow B 5 1 (.slice (some ⟨g, 0, none⟩) n n) n (madeCells (Value.int .u8 0).cells (n * 1)).toList) : Rb w g (List.replicate n 0) := by
 rcases h.2 with ⟨h0, -⟩ | ⟨k, cap, cur, he, hg, hb, h1, h2, h3, h4⟩
 · cases h0
 · simp only [Value.slice.injEq, Option.some.injEq, Addr.mk.injEq] at he; obtain ⟨⟨rfl, -, -⟩, -, rfl⟩ := he; rw [show (Value.int .u8 0).cells = #[Value.int .u8 0] from rfl, toList_madeCells_one, List.take_of_length_le (by rw [Array.length_toList, h3]; exact Nat.le_refl _), Nat.mul_one] at h4
   unfold Rb; rw [hb]
   have e : cur = (u8s (List.replicate n 0)).toArray := by
    rw [← Array.toList_inj, h4]; simp [u8s]
   rw [e]
theorem make_bytes {ops : Array Oper} {rest : List Oper} {o : Oper} {a : Act} {Q : Exit → Act → World → Prop} (w : World) (hg : o.guard = none) (l c : Operand) (hop : o.op = Op.makeSlice 232 l c)
 (L : Int) (n : Nat) (hl : a.eval l = .int .i64 L) (hc : a.eval c = .int .i64 L) (hL : L = (n : Int)) (hn : n ≤ 2199023255552)
 (hK : ∀ w1, Hid (Rb w1 w.heap.size (List.replicate n 0)) → Below w.heap.size w w1 → w.heap.size < w1.heap.size → wpList Tryz.prog ops Q rest (a.put o.dst (.slice (some ⟨w.heap.size, 0, none⟩) n n)) w1) :
 wpList Tryz.prog ops Q (o :: rest) a w := by
 obtain ⟨ti, hti, htz, hts, htb⟩ := info_parts info5; refine wpList_make_full w hg l c 232 hop w.heap.size 5 ti _ 1 Tryz.underlying232 hti htz hts .i64 .i64 L L n hl hc hL hL (by rw [htb]; omega) (by unfold maxLen; omega) (Nat.le_refl _) (fun w1 hown hgrow => ?_)
 have r := made_bytes hown; exact hK w1 r (Keeps.below ⟨hgrow.os, hgrow.tape, hgrow.output, hgrow.size, fun k hk _ => hgrow.block k hk (by simp)⟩) r.lt
theorem push_bytes (L : List UInt8) : ∀ (r : ByteArray), (L.map fun c : UInt8 => (c.toNat : Int)).foldl (fun r k => r.push (UInt8.ofNat k.toNat)) r = ⟨r.data ++ L.toArray⟩ := by
 induction L with
 | nil => intro r; simp
 | cons c L ih =>
   intro r; rw [List.map_cons, List.foldl_cons, ih]; show (⟨r.data.push _ ++ _⟩ : ByteArray) = _
   congr 1
   rw [← Array.toList_inj]
   simp
theorem btrimR (g cap : Nat) (L Z : List Nat) (w : World) (h : Ro w g (L ++ Z)) (hl : Wok L) (hc : L.length ≤ cap) (hn : L.length ≤ 1099511627776) :
 Calls Tryz.prog 196 #[.slice (some ⟨g, 0, none⟩) L.length cap] w fun e w' => e = .returned (.slice (some ⟨g, 0, none⟩) (words (val L)).length cap) ∧ w' = w := by
 have H2 := hid h; have hg := h.lt; haveI : Has w g := ⟨hg⟩; clear h; go_enter Tryz.func196, Tryz.ntmps196; go_wp2_with fail
 go_loop [3] (fun s3 => ∃ k : Nat, s3 = .int .i64 k ∧ k ≤ L.length ∧ Hid (∀ i, k ≤ i → ∀ x, L[i]? = some x → x = 0)) (fun s3 => (intOf s3).toNat)
 case atStart => exact ⟨L.length, rfl, Nat.le_refl _, hid (fun i hi x hx => by rw [List.getElem?_eq_none hi] at hx; cases hx)⟩
 case round =>
  obtain ⟨k, rfl, hk, h0⟩ := hrel
  have fin : Hid ((k = 0 ∨ ∃ x, L[k - 1]? = some x ∧ x ≠ 0) → Value.slice (some ⟨g, 0, none⟩) k cap = .slice (some ⟨g, 0, none⟩) (words (val L)).length cap) := hid (fun hh => by
   have ht := words_cut hl h0.out hh; rw [← ht, List.length_take, Nat.min_eq_left hk])
  rcases Nat.eq_zero_or_pos k with rfl | hkp
  · go_wp2_with fail
    go_ret
    exact ⟨congrArg Ending.returned (fin.out (.inl (by trivial))), rfl⟩
  · obtain ⟨j, rfl⟩ : ∃ j, k = j + 1 := ⟨k - 1, by omega⟩
    have hj : j < L.length := by omega
    have hx : L[j]? = some L[j] := List.getElem?_eq_getElem hj; have hxB := hl.get hx; have cc := H2.out.cell (i := j) (x := L[j]) (by rw [List.getElem?_append_left hj]; exact hx)
    obtain ⟨x, hxx⟩ : ∃ x, x = L[j] := ⟨_, rfl⟩; rw [← hxx] at hx hxB cc; have HX := hid hx; have hjc : j < cap := by omega
    clear hx hxx; by_cases hz : x = 0
    · subst hz
      have h0' : Hid (∀ i, j ≤ i → ∀ x, L[i]? = some x → x = 0) := hid (fun i hi y hy => by
       rcases Nat.lt_or_eq_of_le hi with h | rfl
       · exact h0.out i h y hy
       · rw [HX.out] at hy; exact (Option.some.inj hy).symm)
      clear h0 fin; go_wp2_with fail
      exact ⟨⟨j, by rfl, by omega, h0'⟩, by simp [intOf]⟩
    · have hz' : ((x : Int) == 0) = false := by simp; omega
      have hxp : 0 < x := by omega
      have F := hid (fin.out (.inr ⟨x, HX.out, hz⟩)); clear h0 fin; go_wp2_with fail
      go_ret
      exact ⟨congrArg Ending.returned F.out, rfl⟩
theorem Ob.formA {w : World} {B : Nat} {v : Value} {L : List UInt8} (h : Ob w B v L) : ∃ a cap, v = .slice a L.length cap ∧ L.length ≤ cap := by
 rcases h.2 with ⟨rfl, h0⟩ | ⟨g, cap, cur, h1, h2, hb, h3, -⟩
 · exact ⟨none, 0, by rw [h0], by omega⟩
 · exact ⟨_, cap, h1, h3⟩
theorem Ob.capA {w : World} {B n cap : Nat} {a : Option Addr} {L : List UInt8} (h : Ob w B (.slice a n cap) L) : L.length ≤ cap := by
 obtain ⟨a', c', h1, h2⟩ := h.formA; simp only [Value.slice.injEq] at h1; omega
theorem Rb.ob {w : World} {g B : Nat} {L : List UInt8} (h : Rb w g L) (hB : B ≤ g) (hm : L.length ≤ 1099511627776) : Ob w B (.slice (some ⟨g, 0, none⟩) L.length L.length) L := by
 refine ⟨by rw [u8s_len]; omega, .inr ⟨g, L.length, (u8s L).toArray, rfl, hB, h, Nat.le_refl _, ?_, ?_, ?_⟩⟩
 · unfold maxLen; omega
 · simp [u8s_len]
 · simp only [Nat.mul_one]; rw [List.take_of_length_le (by rw [u8s_len]; exact Nat.le_refl _)]
theorem btell_short (M : Nat) (least : Int) (hl1 : -1099511627776 ≤ least) (hl2 : least ≤ 549755813888) (hor : M ≠ 0 ∨ 0 < least) (hl : (words M).length ≤ 40) (va : Value) (w : World) (wx : Wd w va (words M)) :
 Calls Tryz.prog 227 #[va, .int .i64 10, .int .i64 least] w fun e w' => ∃ v, e = .returned v ∧ Ob w' w.heap.size v (padf least.toNat M) ∧ Below w.heap.size w w' := by
 have CP := hid (fun w' (h : Below w.heap.size w w') => bcopied va (words M) w' (wx.below h) (by omega))
 obtain ⟨ax, cx, rfl, -, -⟩ := wx.form; have hl40 : ((words M).length : Int) ≤ 40 := by omega
 have HOR := hid hor; clear wx hor; go_enter Tryz.func227, Tryz.ntmps227; go_wp2_with fail
 go_loop [10, 11] (fun sb sp => ∃ p : Nat, sb = .int .u32 (10 ^ p : Nat) ∧ sp = .int .i64 p ∧ 1 ≤ p ∧ p ≤ 9) (fun _ sp => 9 - (intOf sp).toNat)
 case atStart => exact ⟨1, rfl, rfl, by omega, by omega⟩
 case round =>
  obtain ⟨p, rfl, rfl, hp1, hp2⟩ := hrel; by_cases hp : p < 9
  · have h1 : 10 ^ p ≤ 10 ^ 8 := Nat.pow_le_pow_right (by decide) (by omega)
    have h2 : ((10 ^ (p + 1) : Nat) : Int) = ((10 ^ p : Nat) : Int) * 10 := by rw [Nat.pow_succ, Int.natCast_mul]; rfl
    rw [show (10 : Nat) ^ 8 = 100000000 from rfl] at h1
    have H2 := hid h2; clear h2; obtain ⟨B, hB⟩ : ∃ B, B = 10 ^ p := ⟨_, rfl⟩; rw [← hB] at h1 H2 ⊢; clear hB; go_wp2_with fail
    go_round
    case rel => exact ⟨p + 1, by rw [H2.out], by go_num, by omega, by omega⟩
    case measure => simp [intOf]; omega
  · obtain rfl : p = 9 := by omega
    rw [show ((10 ^ 9 : Nat) : Int) = 1000000000 from rfl, show ((9 : Nat) : Int) = 9 from rfl]
    clear hp hp1 hp2; go_wp2_with (go_at_call 188; (with_reducible refine (CP.out _ (Below.refl _ _)).mono ?_); rintro e w1 ⟨g, rfl, hR1, hgB, hb1⟩)
    go_loopw [12, 0] (fun vb vw wr => ∃ (n : Nat) (D : List UInt8), vw = .slice (some ⟨g, 0, none⟩) (words n).length (words M).length ∧ Hid (TellI w g (words M).length M n D vb wr)) (fun vb _ _ => 10 * (words M).length + 1 - lenV vb)
    case atStart => exact ⟨M, [], rfl, hid ⟨[], by rw [List.append_nil]; exact hR1, Nat.le_refl _, Ob.nil _ _, by simp, hb1, Nat.le_refl _⟩⟩
    case round =>
     obtain ⟨n, D, rfl, hT⟩ := hrel; obtain ⟨wo, rfl⟩ : ∃ wo : World, wo = wr := ⟨_, rfl⟩; by_cases hn : n = 0
     · subst hn; obtain ⟨Z, t1, t2, t3, t4, t5, t6⟩ := hT.out; rw [figs_0, List.nil_append] at t4; rw [show (words 0).length = 0 by rw [words_0]; rfl]
       have DM : D.length ≤ 400 := by
        have h1 := congrArg List.length t4; have h2 := figs_words M; rw [List.length_reverse] at h1; omega
       have T4 := hid t4; have T3 := hid t3; have T5 := hid t5; obtain ⟨aD, cD, rfl, hcD⟩ := t3.formA; clear hT t1 t2 t3 t4 t5 t6; go_wp2_with fail
       go_loopw [12] (fun vb wx => ∃ (j : Nat) (ad : Option Addr) (cb : Nat), vb = .slice ad (D.length + j) cb ∧ (j = 0 ∨ ((D.length + j : Nat) : Int) ≤ least) ∧ D.length + j ≤ cb ∧ Hid (Ob wx w.heap.size vb (D ++ List.replicate j 48) ∧ Below w.heap.size w wx)) (fun vb _ => (least - (lenV vb : Int)).toNat)
       case atStart => exact ⟨0, aD, cD, rfl, .inl rfl, hcD, hid ⟨by rw [List.replicate_zero, List.append_nil]; exact T3.out, T5.out⟩⟩
       case round =>
        obtain ⟨j, ad, cb, rfl, hj, hjc, hO⟩ := hrel; obtain ⟨o1, o2⟩ := id hO.out; obtain ⟨DJ, hDJ⟩ : ∃ DJ, DJ = D ++ List.replicate j 48 := ⟨_, rfl⟩; have hDJl : DJ.length = D.length + j := by rw [hDJ, List.length_append, List.length_replicate]
        have HDJ := hid hDJ; rw [← hDJ] at o1; rw [← hDJl] at o1 hj hjc ⊢; have hDjb : DJ.length ≤ 1099511627776 := by rcases hj with h | h <;> omega
        have HJ := hid hj; have HJL := hid hDJl; clear hDJ hj hDJl hO; by_cases hle : (DJ.length : Int) < least
        · have l1a : Hid (Ob (wr.alloc (.cells #[.int .u8 48] 5)) w.heap.size (.slice ad DJ.length cb) DJ) := hid (o1.below ((Below.refl _ _).alloc (Nat.le_refl _) _)); obtain ⟨ti, hti, htz, hts, htb⟩ := info_parts info5; have o2s := o2.size; clear o1; go_wp2_with (at_builtin; refine list_app (by rfl) _ _ _ (by rfl) w.heap.size 5 ti _ 1 1 Tryz.underlying232 hti htz hts htb rfl (by omega) (.slice ad DJ.length cb) DJ.length (u8s DJ) (by rfl) l1a.out [.int .u8 48] ⟨_, _, rfl, World.news_of_block (cs := #[.int .u8 48]) (t := 5) (fr := (0, 0)) (by simp only [block_at])⟩ (by rfl) (by simp [Value.oneCell']) (by unfold maxLen; omega) (by omega) (by simp; omega) ?_; intro ga ca wa hown hgrow hat hlt)
          go_roundw
          case rel =>
           have ob := Ob.of_own (D := DJ) (D' := []) (b := 48) (by simp) (by decide) hown
           rw [List.nil_append, show UInt8.ofNat 48 = (48 : UInt8) from rfl] at ob
           have hcb3 := ob.capA; have e2 : DJ ++ [48] = D ++ List.replicate (j + 1) 48 := by rw [HDJ.out, List.append_assoc, List.replicate_succ']
           have hbx : Below w.heap.size w wa := Below.trans (o2.alloc o2s _) (own_grow l1a.out (by simp; omega) hgrow)
           have hJL := HJL.out; refine ⟨j + 1, some ⟨ga, 0, none⟩, ca, by rw [hJL]; rfl, .inr (by omega), ?_, hid ⟨by rw [← e2]; exact ob, hbx⟩⟩
           rw [List.length_append, List.length_singleton] at hcb3; omega
          case measure => simp only [lenV]; omega
        · have D2P : Hid (padf least.toNat M = DJ.reverse) := hid (by
           rw [HDJ.out, List.reverse_append, List.reverse_replicate]; unfold padf; rw [T4.out, List.length_reverse]
           congr 2
           have := HJL.out; rcases HJ.out with h | h <;> omega)
          have hDp : 0 < DJ.length := by
           rcases HOR.out with h | h
           · have h1 := congrArg List.length T4.out; rw [List.length_reverse] at h1; have h2 := figs_len (n := M) (k := 0); have := HJL.out; omega
           · omega
          obtain ⟨gb, cb2, he2, -, hcb3, hgl, hce⟩ := o1.form hDp; simp only [Value.slice.injEq] at he2; obtain ⟨rfl, -, rfl⟩ := he2; have hbx := o2; have hD2 := hDjb; have hleD : decide ((DJ.length : Int) < least) = false := decide_eq_false hle; clear o1 HJ HJL T3 T4 T5 HDJ hle; generalize DJ = D2 at *; obtain ⟨wq, rfl⟩ : ∃ wq : World, wq = wr := ⟨_, rfl⟩; have hnz : D2.length ≤ 1099511627776 := hD2; go_wp2_with (at_make; refine make_bytes _ rfl _ _ rfl _ D2.length rfl rfl rfl (by omega) ?_; intro wm hro hbm hltm)
          have hbm2 : Below w.heap.size w wm := Below.trans hbx (below_low hbm hbx.size); have hgne : gb ≠ wq.heap.size := by omega
          have hce2 : ∀ (i : Nat) (c : UInt8), D2[i]? = some c → wm.cell? ⟨gb, i, none⟩ = some (.int .u8 c.toNat) := fun i c h => (hbm.cell (p := ⟨gb, i, none⟩) hgl).trans (hce i c h)
          obtain ⟨go, hgo⟩ : ∃ go, go = wq.heap.size := ⟨_, rfl⟩; rw [← hgo] at hro hgne ⊢; have hgoB : w.heap.size ≤ go := by rw [hgo]; exact hbx.size
          have hgb2 : gb < wm.heap.size := Nat.lt_of_lt_of_le hgl hbm.size; have HCE := hid hce2; have NE := hid hgne; have HB2 := hid hbm2; clear hce hce2 hbm hbm2 hgo hgl hbx hgne; go_loopw [19] (fun s15 wy => ∃ j : Nat, s15 = .int .i64 j ∧ j ≤ D2.length ∧ Hid (Rb wy go (D2.reverse.take j ++ List.replicate (D2.length - j) 0) ∧ Below w.heap.size w wy ∧ (∀ (i : Nat) (c : UInt8), D2[i]? = some c → wy.cell? ⟨gb, i, none⟩ = some (.int .u8 c.toNat)) ∧ gb < wy.heap.size)) (fun s15 _ => D2.length - (intOf s15).toNat)
          case atStart => exact ⟨0, rfl, Nat.zero_le _, hid ⟨by rw [List.take_zero, List.nil_append, Nat.sub_zero]; exact hro.out, HB2.out, HCE.out, hgb2⟩⟩
          case round =>
           obtain ⟨j, rfl, hj, hJ⟩ := hrel; by_cases hjl : j < D2.length
           · obtain ⟨j1, j2, j3, j4⟩ := hJ.out; obtain ⟨ix, hix⟩ : ∃ ix, ix = D2.length - 1 - j := ⟨_, rfl⟩; have hixI : (D2.length : Int) - 1 - (j : Int) = (ix : Int) := by omega
             have hixl : ix < D2.length := by omega
             have hixl2 : (ix : Int) < (D2.length : Int) := by omega
             have hjI : (j : Int) < (D2.length : Int) := by omega
             obtain ⟨c, hc⟩ : ∃ c, c = D2[ix] := ⟨_, rfl⟩; have hcx : D2[ix]? = some c := by rw [hc]; exact List.getElem?_eq_getElem hixl
             have cb0 := j3 ix c hcx
             have hrv : D2.reverse[j]? = some c := by
              rw [List.getElem?_reverse hjl, ← hix]; exact hcx
             have hsz : (D2.reverse.take j).length = j := by rw [List.length_take, List.length_reverse]; omega
             have hrow : D2.reverse.take j ++ List.replicate (D2.length - j) 0 = D2.reverse.take j ++ 0 :: List.replicate (D2.length - (j + 1)) 0 := by
              rw [show D2.length - j = D2.length - (j + 1) + 1 by omega, List.replicate_succ]
             rw [hrow] at j1; have c1 := j1.cell (i := j) (c := 0) (by rw [List.getElem?_append_right (by omega), hsz, Nat.sub_self]; rfl)
             have f1 := j1.free j; haveI : Has wr go := ⟨j1.lt⟩; haveI : Has wr gb := ⟨j4⟩; have S1 := j1.set j c
             have hset : (D2.reverse.take j ++ 0 :: List.replicate (D2.length - (j + 1)) 0).set j c = D2.reverse.take (j + 1) ++ List.replicate (D2.length - (j + 1)) 0 := by
              rw [List.set_append_right _ _ (by omega), hsz, Nat.sub_self, List.set_cons_zero, List.take_add_one, hrv, List.append_assoc]
              rfl
             rw [hset] at S1
             have NX : Hid (Rb (wr.setCell ⟨go, j, none⟩ (.int .u8 (c.toNat : Int))) go (D2.reverse.take (j + 1) ++ List.replicate (D2.length - (j + 1)) 0) ∧ Below w.heap.size w (wr.setCell ⟨go, j, none⟩ (.int .u8 (c.toNat : Int))) ∧ (∀ (i : Nat) (c' : UInt8), D2[i]? = some c' → (wr.setCell ⟨go, j, none⟩ (.int .u8 (c.toNat : Int))).cell? ⟨gb, i, none⟩ = some (.int .u8 c'.toNat)) ∧ gb < (wr.setCell ⟨go, j, none⟩ (.int .u8 (c.toNat : Int))).heap.size) := hid ⟨S1, ((Keeps.of_below (S := []) j2).set (Or.inr hgoB) _ _).below, fun i c' h => by
              rw [World.cell?_setCell_other _ _ _ _ (fun e => NE.out (congrArg Addr.block e).symm)]
              exact j3 i c' h, by rw [World.size_setCell]; exact j4⟩
             obtain ⟨cn, hcn⟩ : ∃ cn : Nat, cn = c.toNat := ⟨_, rfl⟩; rw [← hcn] at cb0 NX; have hcb2 : ix < cb := by omega
             clear j1 j2 j3 j4 S1 hset hrow hrv hcx hc hix hJ hsz hcn; go_wp2_with fail
             go_roundw
             case rel => exact ⟨j + 1, by go_num, by omega, NX⟩
             case measure => simp [intOf]; omega
           · obtain rfl : j = D2.length := by omega
             obtain ⟨j1, j2, -, -⟩ := hJ.out; rw [Nat.sub_self, List.replicate_zero, List.append_nil, ← List.length_reverse, List.take_length] at j1; have hcv := j1.ob (B := w.heap.size) hgoB (by rw [List.length_reverse]; exact hnz)
             rw [List.length_reverse] at hcv; have J1 := hid hcv; have J2 := hid j2; clear j1 j2 hJ hcv; go_wp2_with fail
             go_ret
             exact ⟨_, rfl, by rw [D2P.out]; exact J1.out, J2.out⟩
     · obtain ⟨Z, IZ⟩ : ∃ Z, Hid (Ro wo g (words n ++ Z) ∧ (words n).length ≤ (words M).length ∧ Ob wo w.heap.size _ D ∧ figs M = figs n ++ D.reverse ∧ Below w.heap.size w wo ∧ n ≤ M) := ⟨_, hid hT.out.choose_spec⟩; have hcap : (words n).length ≤ (words M).length := IZ.out.2.1
       have hnl : (0 : Int) < ((words n).length : Int) := by
        have : (words n).length ≠ 0 := fun e => hn (words_len0.1 e)
        omega
       go_wp2_with fail
       go_loopw [13, 14] (fun sr si wx => ∃ (j r : Nat) (Q : List Nat), sr = .int .u64 r ∧ si = .int .i64 ((j : Int) - 1) ∧ j ≤ (words n).length ∧ Hid (DivI w g n Z D u12 j r Q wx)) (fun _ si _ => (intOf si + 1).toNat)
       case atStart => exact ⟨(words n).length, 0, [], rfl, by go_num, Nat.le_refl _, hid ⟨by simp, Wok.nil, by decide, by simp [val], by rw [List.take_length]; exact IZ.out.1, IZ.out.2.2.1, IZ.out.2.2.2.2.1⟩⟩
       case round =>
        obtain ⟨j, r, Q, rfl, rfl, hj, hI⟩ := hrel; rcases j with _ | j
        · skip
          obtain ⟨i1, i2, i3, i4, i5, i6, i7⟩ := id hI.out; rw [List.drop_zero, val_words] at i4; rw [List.take_zero, List.nil_append] at i5; obtain ⟨Z1, hZ1⟩ := wok_split i2; obtain ⟨q, hq⟩ : ∃ q, q = val Q := ⟨_, rfl⟩; have TR := btrimR g (words M).length Q Z wr i5 i2 (by omega) (by omega)
          rw [← hq, show Q.length = (words n).length by omega] at TR
          rw [← hq] at i4 hZ1; obtain ⟨Z2, hZ2⟩ : ∃ Z2, Z2 = Z1 ++ Z := ⟨_, rfl⟩; have hRq : Ro wr g (words q ++ Z2) := by rw [hZ2, ← List.append_assoc, ← hZ1]; exact i5
          have hq1 : q = n / 1000000000 := by omega
          have hq2 : r = n % 1000000000 := by omega
          have hqn : q < n := by omega
          have HQ1 := hid hq1; have HQ2 := hid hq2; have r10 : r < 10 ^ 9 := i3; have i3' : r < 1000000000 := i3; have QLE : Hid ((words q).length ≤ (words M).length) := hid (Nat.le_trans (len_mono (Nat.le_of_lt hqn)) hcap)
          have DLB : D.length ≤ 171798691840 := by
           have h1 := congrArg List.length IZ.out.2.2.2.1; have h2 := figs_words M; rw [List.length_append, List.length_reverse] at h1; omega
          have h2r : q = 0 → r ≠ 0 := fun h => by omega
          clear hq hq1 hq2 hZ1 hZ2 i1 i2 i3 i4 i5 hI; obtain ⟨lq, hlq⟩ : ∃ lq, lq = (words q).length := ⟨_, rfl⟩; rw [← hlq] at TR; have HLQ := hid hlq; by_cases hq0 : q = 0
          · have h2r := h2r hq0; have HQ0 := hid hq0; have w0 : lq = 0 := by rw [hlq, hq0, words_0]; rfl
            subst w0; clear hq0 hlq; go_wp2_with (go_at_call 196; (with_reducible refine TR.mono ?_); rintro e w' ⟨rfl, hw⟩; obtain rfl := hw.symm)
            go_loopw [12, 16, 17] (fun vd vr vi wx => ∃ (k r' : Nat) (D' : List UInt8), vr = .int .u32 r' ∧ vi = .int .i64 k ∧ k ≤ 9 ∧ r' < 10 ^ (9 - k) ∧ D'.length = k ∧ Hid (Ob wx w.heap.size vd (D ++ D') ∧ figs r = figs r' ++ D'.reverse ∧ Ro wx g (words q ++ Z2) ∧ Below w.heap.size w wx)) (fun _ _ vi _ => 9 - (intOf vi).toNat)
            case atStart => exact ⟨0, r, [], rfl, rfl, by omega, by omega, rfl, hid ⟨by rw [List.append_nil]; exact i6, by simp, hRq, i7⟩⟩
            case round =>
             obtain ⟨k, r', D', rfl, rfl, hk, hr', hDk, hL⟩ := hrel; obtain ⟨l1, l2, l3, l4⟩ := id hL.out; by_cases hk9 : r' ≠ 0
             · have hk99 : k < 9 := (by rcases Nat.lt_or_eq_of_le hk with h | h; exact h; subst h; exfalso; apply hk9; simpa using hr')
               have hk8 : (k : Int) < 9 := by omega
               have hrp : decide ((0 : Int) < (r' : Int)) = true := decide_eq_true (by omega)
               have hrp2 : (0 : Int) < (r' : Int) := by omega
               have hrp3 : 0 < r' := by omega
               obtain ⟨dg, hdg⟩ : ∃ dg, dg = r' % 10 := ⟨_, rfl⟩; have hdg9 : dg < 10 := by omega
               have m1 : (r' : Int) % 10 = (dg : Int) := by omega
               obtain ⟨rn, hrn⟩ : ∃ rn, rn = r' / 10 := ⟨_, rfl⟩; have m2 : (r' : Int) / 10 = (rn : Int) := by omega
               have hidx := fun w => idx_fig dg hdg9 w
               obtain ⟨by_, hby⟩ : ∃ b : Nat, b = 48 + dg := ⟨_, rfl⟩; rw [← hby] at hidx; have HDG := hid hdg; have HRN := hid hrn; have HBY := hid hby; have l1a : Hid (Ob (wr.alloc (.cells #[.int .u8 (by_ : Int)] 5)) w.heap.size u12 (D ++ D')) := hid (l1.below ((Below.refl _ _).alloc (Nat.le_refl _) _)); have hDl : (D ++ D').length ≤ 1099511627776 := by rw [List.length_append]; omega
               have hrnB : rn < 4294967296 := by have : (10 : Nat) ^ (9 - k) ≤ 10 ^ 9 := Nat.pow_le_pow_right (by decide) (by omega); rw [show (10 : Nat) ^ 9 = 1000000000 from rfl] at this; omega
               have hr'H := hid hr'; have l4s := l4.size; have hDk := hDk; generalize hDD : D ++ D' = DD at *; have HDD := hid hDD; obtain ⟨ti, hti, htz, hts, htb⟩ := info_parts info5; clear hdg hrn hby hDD; go_wp2_with (at_builtin; refine list_app (by rfl) _ _ _ (by rfl) w.heap.size 5 ti _ 1 1 Tryz.underlying232 hti htz hts htb rfl (by omega) u12 DD.length (u8s DD) (by rfl) l1a.out [.int .u8 (by_ : Int)] ⟨_, _, rfl, World.news_of_block (cs := #[.int .u8 (by_ : Int)]) (t := 5) (fr := (0, 0)) (by simp only [block_at])⟩ (by rfl) (by simp [Value.oneCell']) (by unfold maxLen; omega) (by omega) (by simp; omega) ?_; intro gb cp wa hown hgrow hat hlt)
               go_roundw
               case rel =>
                have hdg := HDG.out; have hrn := HRN.out; have hby := HBY.out; have hr2 := hr'H.out; have B3 : Below w.heap.size w wa := Below.trans (l4.alloc l4s _) (own_grow l1a.out (by simp; omega) hgrow)
                have R3 : Ro wa g (words q ++ Z2) := (l3.keep ((Below.refl _ _).alloc (Nat.le_refl _) _)).grown hgrow (l1a.out.apart (l3.keep ((Below.refl _ _).alloc (Nat.le_refl _) _))); refine ⟨k + 1, rn, D' ++ [UInt8.ofNat by_], by rfl, by go_num, by omega, ?_, by rw [List.length_append, List.length_singleton]; omega, hid ⟨Ob.of_own HDD.out (by omega) hown, ?_, R3, B3⟩⟩
                · rw [hrn, Nat.div_lt_iff_lt_mul (by decide)]
                  rw [show 9 - k = 9 - (k + 1) + 1 by omega, Nat.pow_succ] at hr2
                  exact hr2
                · rw [l2, figs_pos hk9, List.reverse_append, List.append_assoc, hrn, hby, hdg]; rfl
               case measure => simp [intOf]; omega
             · obtain rfl : r' = 0 := by omega
               have hDp : 0 < D'.length := (by rcases Nat.eq_zero_or_pos D'.length with h | h; (exfalso; rw [List.length_eq_zero_iff.1 h, figs_0] at l2; have h3 := congrArg List.length l2; have h4 : (figs r).length ≠ 0 := (fun h5 => h2r (by have := figs_len (n := r) (k := 0); omega)); exact h4 (by rw [h3]; rfl)); exact h)
               have LE := l1.lenV; rw [List.length_append] at LE; have FG : Hid (figs M = figs q ++ (D ++ D').reverse) := hid (by rw [IZ.out.2.2.2.1, tell_last HQ1.out HQ2.out HQ0.out, l2, HQ0.out, figs_0, List.nil_append, List.nil_append, List.reverse_append])
               have DB : (D ++ D').length ≤ 10 * (words M).length := by
                have h1 := congrArg List.length FG.out; have h2 := figs_words M; rw [List.length_append, List.length_reverse] at h1; omega
               rw [List.length_append] at DB; have NXT : Hid (TellI w g (words M).length M q (D ++ D') _ wr) := hid ⟨Z2, l3, QLE.out, l1, FG.out, l4, by have := IZ.out.2.2.2.2.2; omega⟩
               have LV := IZ.out.2.2.1.lenV; clear l2; go_wp2_with fail
               all_goals
                go_roundw
                case rel => exact ⟨q, D ++ D', by rw [← HLQ.out], NXT⟩
                case measure =>
                 show 10 * (words M).length + 1 - lenV _ < 10 * (words M).length + 1 - lenV _
                 rw [LE, LV]; omega
          · have hql : (0 : Int) < (lq : Int) := by
             have : (words q).length ≠ 0 := fun e => hq0 (words_len0.1 e)
             omega
            clear hlq; go_wp2_with (go_at_call 196; (with_reducible refine TR.mono ?_); rintro e w' ⟨rfl, hw⟩; obtain rfl := hw.symm)
            go_loopw [12, 16, 17] (fun vd vr vi wx => ∃ (k r' : Nat) (D' : List UInt8), vr = .int .u32 r' ∧ vi = .int .i64 k ∧ k ≤ 9 ∧ r' < 10 ^ (9 - k) ∧ D'.length = k ∧ Hid (Ob wx w.heap.size vd (D ++ D') ∧ padf 9 r = padf (9 - k) r' ++ D'.reverse ∧ Ro wx g (words q ++ Z2) ∧ Below w.heap.size w wx)) (fun _ _ vi _ => 9 - (intOf vi).toNat)
            case atStart => exact ⟨0, r, [], rfl, rfl, by omega, by omega, rfl, hid ⟨by rw [List.append_nil]; exact i6, by simp, hRq, i7⟩⟩
            case round =>
             obtain ⟨k, r', D', rfl, rfl, hk, hr', hDk, hL⟩ := hrel; obtain ⟨l1, l2, l3, l4⟩ := id hL.out; by_cases hk9 : k < 9
             · skip
               have hk8 : (k : Int) < 9 := by omega
               skip
               skip
               skip
               obtain ⟨dg, hdg⟩ : ∃ dg, dg = r' % 10 := ⟨_, rfl⟩; have hdg9 : dg < 10 := by omega
               have m1 : (r' : Int) % 10 = (dg : Int) := by omega
               obtain ⟨rn, hrn⟩ : ∃ rn, rn = r' / 10 := ⟨_, rfl⟩; have m2 : (r' : Int) / 10 = (rn : Int) := by omega
               have hidx := fun w => idx_fig dg hdg9 w
               obtain ⟨by_, hby⟩ : ∃ b : Nat, b = 48 + dg := ⟨_, rfl⟩; rw [← hby] at hidx; have HDG := hid hdg; have HRN := hid hrn; have HBY := hid hby; have l1a : Hid (Ob (wr.alloc (.cells #[.int .u8 (by_ : Int)] 5)) w.heap.size u12 (D ++ D')) := hid (l1.below ((Below.refl _ _).alloc (Nat.le_refl _) _)); have hDl : (D ++ D').length ≤ 1099511627776 := by rw [List.length_append]; omega
               have hrnB : rn < 4294967296 := by have : (10 : Nat) ^ (9 - k) ≤ 10 ^ 9 := Nat.pow_le_pow_right (by decide) (by omega); rw [show (10 : Nat) ^ 9 = 1000000000 from rfl] at this; omega
               have hr'H := hid hr'; have l4s := l4.size; have hDk := hDk; generalize hDD : D ++ D' = DD at *; have HDD := hid hDD; obtain ⟨ti, hti, htz, hts, htb⟩ := info_parts info5; clear hdg hrn hby hDD; go_wp2_with (at_builtin; refine list_app (by rfl) _ _ _ (by rfl) w.heap.size 5 ti _ 1 1 Tryz.underlying232 hti htz hts htb rfl (by omega) u12 DD.length (u8s DD) (by rfl) l1a.out [.int .u8 (by_ : Int)] ⟨_, _, rfl, World.news_of_block (cs := #[.int .u8 (by_ : Int)]) (t := 5) (fr := (0, 0)) (by simp only [block_at])⟩ (by rfl) (by simp [Value.oneCell']) (by unfold maxLen; omega) (by omega) (by simp; omega) ?_; intro gb cp wa hown hgrow hat hlt)
               go_roundw
               case rel =>
                have hdg := HDG.out; have hrn := HRN.out; have hby := HBY.out; have hr2 := hr'H.out; have B3 : Below w.heap.size w wa := Below.trans (l4.alloc l4s _) (own_grow l1a.out (by simp; omega) hgrow)
                have R3 : Ro wa g (words q ++ Z2) := (l3.keep ((Below.refl _ _).alloc (Nat.le_refl _) _)).grown hgrow (l1a.out.apart (l3.keep ((Below.refl _ _).alloc (Nat.le_refl _) _))); refine ⟨k + 1, rn, D' ++ [UInt8.ofNat by_], by rfl, by go_num, by omega, ?_, by rw [List.length_append, List.length_singleton]; omega, hid ⟨Ob.of_own HDD.out (by omega) hown, ?_, R3, B3⟩⟩
                · rw [hrn, Nat.div_lt_iff_lt_mul (by decide)]
                  rw [show 9 - k = 9 - (k + 1) + 1 by omega, Nat.pow_succ] at hr2
                  exact hr2
                · rw [l2, show 9 - k = 9 - (k + 1) + 1 by omega, padf_succ, List.reverse_append, List.append_assoc, hrn, hby, hdg]
                  rfl
               case measure => simp [intOf]; omega
             · obtain rfl : k = 9 := by omega
               obtain rfl : r' = 0 := by simpa using hr'
               have hDp : 0 < D'.length := by omega
               have LE := l1.lenV; rw [List.length_append] at LE; have FG : Hid (figs M = figs q ++ (D ++ D').reverse) := hid (by rw [IZ.out.2.2.2.1, tell_more HQ1.out HQ2.out hq0, l2, show (9 : Nat) - 9 = 0 from rfl, padf_zero, figs_0, List.nil_append, List.reverse_append, List.append_assoc])
               have DB : (D ++ D').length ≤ 10 * (words M).length := by
                have h1 := congrArg List.length FG.out; have h2 := figs_words M; rw [List.length_append, List.length_reverse] at h1; omega
               rw [List.length_append] at DB; have NXT : Hid (TellI w g (words M).length M q (D ++ D') _ wr) := hid ⟨Z2, l3, QLE.out, l1, FG.out, l4, by have := IZ.out.2.2.2.2.2; omega⟩
               have LV := IZ.out.2.2.1.lenV; clear l2; go_wp2_with fail
               all_goals
                go_roundw
                case rel => exact ⟨q, D ++ D', by rw [← HLQ.out], NXT⟩
                case measure =>
                 show 10 * (words M).length + 1 - lenV _ < 10 * (words M).length + 1 - lenV _
                 rw [LE, LV]; omega
        · obtain ⟨i1, i2, i3, i4, i5, i6, i7⟩ := id hI.out; have hx : (words n)[j]? = some (words n)[j] := List.getElem?_eq_getElem (by omega)
          obtain ⟨x, hxx⟩ : ∃ x, x = (words n)[j] := ⟨_, rfl⟩; rw [← hxx] at hx; have hxB := (words_ok n).get hx; have c0 := i5.cell (i := j) (x := x) (by rw [List.getElem?_append_left (by rw [List.length_take]; omega), List.getElem?_take_of_lt (by omega)]; exact hx)
          have f0 := i5.free j; have hgw := i5.lt; haveI : Has wr g := ⟨hgw⟩; obtain ⟨t, ht⟩ : ∃ t, t = r * 4294967296 + x := ⟨_, rfl⟩; obtain ⟨qd, hqd⟩ : ∃ qd, qd = t / 1000000000 := ⟨_, rfl⟩; obtain ⟨r2, hr2⟩ : ∃ r2, r2 = t % 1000000000 := ⟨_, rfl⟩; have hqB : qd < 4294967296 := by omega
          have hrB : r2 < 1000000000 := by omega
          have o1 := or64 (r * 4294967296) x (by omega) (by omega)
          rw [or_high x r hxB, ← ht, Int.natCast_mul] at o1; have o1 : bits BinOp.or IntKind.u64 ((r : Int) * 4294967296) (x : Int) = (t : Int) := o1; have e1 : (t : Int) / 1000000000 = (qd : Int) := by omega
          have e2 : (t : Int) % 1000000000 = (r2 : Int) := by omega
          have tB : t < 4294967296000000000 := by omega
          have hjc : j < (words M).length := by omega
          have hr9 : r < 1000000000 := i3; have hjl : (j : Int) < ((words n).length : Int) := by omega
          have NX : Hid (DivI w g n Z D u12 j r2 (qd :: Q) (wr.setCell ⟨g, j, none⟩ (.int .u32 qd))) := hid (by
           refine ⟨by simp; omega, Wok.cons hqB i2, hrB, ?_, ?_, ?_, ?_⟩
           · rw [val_drop hx, i4, val, hqd, hr2, ht]; have := Nat.div_add_mod (r * 4294967296 + x) 1000000000; omega
           · have h1 := i5.set j qd; have h2 : (words n).take (j + 1) = (words n).take j ++ [x] := by rw [List.take_add_one, hx]; rfl
             have h3 : ((words n).take j).length = j := by rw [List.length_take]; omega
             rw [h2, List.append_assoc, List.singleton_append] at h1; have h4 := set_row ((words n).take j) (Q ++ Z) x qd; rw [h3] at h4; rw [h4, List.append_assoc] at h1; exact h1
           · exact i6.keep ((Keeps.refl wr.heap.size [g] wr).set (Or.inl (by simp)) _ _) (Nat.le_refl _) (i6.apart i5)
           · exact ((Keeps.of_below (S := []) i7).set (Or.inr hgB) _ _).below)
          rw [show ((j + 1 : Nat) : Int) - 1 = (j : Int) by omega] at *
          clear hx hxx i1 i2 i3 i4 i5 i6 i7 ht hqd hr2 hI; go_wp2_with fail
          go_roundw
          case rel => exact ⟨j, r2, _, (by first | rfl | exact congrArg (Value.int .u64) e2), by go_num, by omega, NX⟩
          case measure => simp [intOf]
end Go.Proofs.YthjeejnggpjnjaaGreatDoor
