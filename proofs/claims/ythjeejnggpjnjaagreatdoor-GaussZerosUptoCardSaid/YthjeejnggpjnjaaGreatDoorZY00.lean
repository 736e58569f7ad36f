/- A part: J, B. -/
import Derived.Test.YthjeejnggpjnjaaGreatDoorZO02
import Derived.Deep.AppendLies
set_option linter.unusedSimpArgs false
set_option linter.unusedVariables false
set_option maxRecDepth 100000
set_option maxHeartbeats 16000000
set_option synthInstance.maxHeartbeats 2000000
set_option synthInstance.maxSize 100000
namespace Go.Proofs.YthjeejnggpjnjaaGreatDoor
open Go.RowKit
def tz (n : Nat) : Nat := if n = 0 then 0 else Lib.ctzFrom (bl n) n
theorem tz_spec {n : Nat} (h : n ≠ 0) : ∃ q, n = 2 ^ tz n * (2 * q + 1) := by
 obtain ⟨m, hm, -⟩ := Lib.ctzFrom_spec (bl n) n (by omega) (bl_lt n)
 unfold tz; rw [if_neg h]; exact ⟨m, hm⟩
theorem tz_le {a b p q : Nat} (h : 2 ^ a * (2 * p + 1) = 2 ^ b * (2 * q + 1)) : a ≤ b := by
 rcases Nat.lt_or_ge b a with h1 | h1
 · exfalso
   obtain ⟨d, rfl⟩ : ∃ d, a = b + (d + 1) := ⟨a - b - 1, by omega⟩
   rw [Nat.pow_add, Nat.mul_assoc] at h; have h2 := Nat.eq_of_mul_eq_mul_left (Nat.pow_pos (by decide)) h
   rw [Nat.pow_succ, Nat.mul_comm (2 ^ d) 2, Nat.mul_assoc] at h2; omega
 · exact h1
theorem tz_of {n k q : Nat} (h : n = 2 ^ k * (2 * q + 1)) : tz n = k := by
 have h0 : n ≠ 0 := by
  have : 0 < 2 ^ k := Nat.pow_pos (by decide)
  have := Nat.mul_pos this (show 0 < 2 * q + 1 by omega)
  omega
 obtain ⟨p, hp⟩ := tz_spec h0; have e := hp.symm.trans h; exact Nat.le_antisymm (tz_le e) (tz_le e.symm)
theorem ctz32 {x : Nat} (h : x ≠ 0) (hx : x < 4294967296) : Lib.ctz 32 x < 32 ∧ ∃ q, x = 2 ^ Lib.ctz 32 x * (2 * q + 1) := by
 obtain ⟨m, hm, hk⟩ := Lib.ctzFrom_spec 32 x (by omega) (by simpa using hx)
 have e : Lib.ctz 32 x = Lib.ctzFrom 32 x := by simp [Lib.ctz, h]
 rw [e]; exact ⟨hk, m, hm⟩
theorem tz_at {n k x : Nat} (hx : (words n)[k]? = some x) (h0 : val ((words n).take k) = 0) (hx0 : x ≠ 0) : tz n = 32 * k + Lib.ctz 32 x := by
 have hxB := (words_ok n).get hx; obtain ⟨hc, q, hq⟩ := ctz32 hx0 hxB; have a := val_append ((words n).take k) ((words n).drop k)
 have hk : k < (words n).length := by
  rcases Nat.lt_or_ge k (words n).length with h1 | h1
  · exact h1
  · rw [List.getElem?_eq_none h1] at hx; cases hx
 rw [List.take_append_drop, val_words, h0, List.length_take, Nat.min_eq_left (by omega), val_drop hx, Nat.zero_add] at a
 generalize Lib.ctz 32 x = c at hc hq ⊢; generalize val ((words n).drop (k + 1)) = V at a; refine tz_of (q := q + 2 ^ (31 - c) * V) ?_
 have e1 : (4294967296 : Nat) ^ k = 2 ^ (32 * k) := by rw [Nat.pow_mul]
 have e2 : (4294967296 : Nat) = 2 ^ c * (2 * 2 ^ (31 - c)) := by
  rw [← Nat.pow_succ', ← Nat.pow_add, show c + (31 - c).succ = 32 by omega]
 have e3 : x + 4294967296 * V = 2 ^ c * (2 * (q + 2 ^ (31 - c) * V) + 1) := by
  rw [hq]
  conv => lhs; rw [e2]
  rw [Nat.mul_assoc, ← Nat.mul_add]
  congr 1
  rw [Nat.mul_add, Nat.mul_assoc]; omega
 rw [a, e3, e1, ← Nat.mul_assoc, ← Nat.pow_add]
theorem val_0 {l : List Nat} (h : ∀ i, i < l.length → ∀ x, l[i]? = some x → x = 0) : val l = 0 := by
 have := val_cut (l := l) (k := 0) (fun i _ x hx => h i (by
  rcases Nat.lt_or_ge i l.length with h1 | h1
  · exact h1
  · rw [List.getElem?_eq_none h1] at hx; cases hx) x hx)
 rw [← this]; rfl
theorem mul_small_fin {o : List Nat} {n m c cy : Nat} (hm : 0 < m) (hol : o.length = (words n).length) (ho : Wok o) (hcy : cy < 4294967296) (h : val o + 4294967296 ^ (words n).length * cy = n * m + c) :
 (cy = 0 → o = words (n * m + c)) ∧ (cy ≠ 0 → o ++ [cy] = words (n * m + c)) ∧ val (o ++ [cy]) = n * m + c := by
 have e : val [cy] = cy := by simp [val]
 have hv : val (o ++ [cy]) = n * m + c := by rw [val_append, e, hol, h]
 refine ⟨fun h0 => ?_, fun h0 => ?_, hv⟩
 · rw [h0, Nat.mul_zero, Nat.add_zero] at h; rw [← h]; refine (words_val ho (fun x hx hx0 => ?_)).symm
   rw [hx0] at hx
   have hn : n ≠ 0 := fun e0 => by
    rw [e0, words_0] at hol; have : o = [] := List.length_eq_zero_iff.1 hol; rw [this] at hx; cases hx
   have ht := words_top hn; rw [List.getLast?_eq_getElem?] at hx
   have hl : o.length - 1 < o.length := by
    rcases Nat.lt_or_ge (o.length - 1) o.length with h1 | h1
    · exact h1
    · rw [List.getElem?_eq_none h1] at hx; cases hx
   have h1 := val_take hx; rw [show o.length - 1 + 1 = o.length by omega, List.take_length, Nat.mul_zero, Nat.add_zero] at h1
   have h2 := val_lt (ho.take (o.length - 1)); rw [← h1, List.length_take, Nat.min_eq_left (by omega), h, hol] at h2
   have h3 : n ≤ n * m := Nat.le_mul_of_pos_right n hm; omega
 · rw [← hv]; refine (words_val (ho.append (Wok.cons hcy Wok.nil)) (fun x hx => ?_)).symm
   simp at hx
   omega
set_option maxHeartbeats 4000000 in
theorem bzeros (va : Value) (n : Nat) (w : World) (ha : Wd w va (words n)) (hn : (words n).length ≤ 1099511627776) (hv : Vr w) :
 Calls Tryz.prog 223 #[va] w fun e w' => e = .returned (.int .i64 (tz n)) ∧ w' = w := by
 obtain ⟨a, ca, rfl, hca, hce⟩ := ha.form; clear ha; have wk := words_ok n; have wz := @tz_at n; have hnn := val_words n; generalize words n = l at hca hce hn wk wz hnn ⊢; have HA := hid hce; have HZ : Hid (∀ k x, l[k]? = some x → val (l.take k) = 0 → x ≠ 0 → tz n = 32 * k + Lib.ctz 32 x) := hid (fun k x => wz)
 have HN := hid hnn; have WK := hid wk; have VR := hid hv; clear hce wz hnn wk hv; go_enter Tryz.func223, Tryz.ntmps223; go_wp2_with fail
 go_loop [3] (fun s3 => ∃ k : Nat, s3 = .int .i64 k ∧ k ≤ l.length ∧ Hid (∀ i, i < k → ∀ x, l[i]? = some x → x = 0)) (fun s3 => l.length - (intOf s3).toNat)
 case atStart => exact ⟨0, rfl, Nat.zero_le _, hid (fun i hi => absurd hi (Nat.not_lt_zero _))⟩
 case round =>
  obtain ⟨k, rfl, hk, h0⟩ := hrel; by_cases hkl : k < l.length
  · obtain ⟨g, off, rfl, hg, hxa⟩ := HA.out (by omega)
    have hx : l[k]? = some l[k] := List.getElem?_eq_getElem hkl; obtain ⟨x, hxx⟩ : ∃ x, x = l[k] := ⟨_, rfl⟩; rw [← hxx] at hx; have hxB := WK.out.get hx; have c0 := hxa k x hx; haveI : Has w g := ⟨hg⟩; have hkl' : (k : Int) < (l.length : Int) := by omega
    have hk0 : (0 : Int) ≤ (k : Int) := by omega
    by_cases hx0 : x = 0
    · subst hx0
      have H1 : Hid (∀ i, i < k + 1 → ∀ x, l[i]? = some x → x = 0) := hid (fun i hi y hy => by
       rcases Nat.lt_or_eq_of_le (Nat.le_of_lt_succ hi) with h | rfl
       · exact h0.out i h y hy
       · rw [hx] at hy; exact (Option.some.inj hy).symm)
      clear hx hxx hxa h0; go_wp2_with fail
      exact ⟨⟨k + 1, by rfl, by omega, H1⟩, by simp [intOf]; omega⟩
    · have hxp : ((x : Int) == 0) = false := beq_eq_false_iff_ne.2 (by omega)
      have ht := HZ.out k x hx (val_0 (fun i hi y hy => by
       rw [List.length_take] at hi; rw [List.getElem?_take_of_lt (by omega)] at hy
       exact h0.out i (by omega) y hy)) hx0
      have hne : ((k : Int) == (l.length : Int)) = false := beq_eq_false_iff_ne.2 (by omega)
      have HT := hid ht; have T := fun w hv => tz32 x hxB hx0 w hv
      have hcB := (ctz32 hx0 hxB).1; generalize Lib.ctz 32 x = c at HT T hcB; clear ht hx hxx hxa h0; go_wp2_with (go_at_call 241; refine (T _ VR.out).mono ?_; rintro e w' ⟨rfl, hw⟩; obtain rfl := hw.symm)
      go_ret
      exact ⟨by rw [HT.out]; simp, rfl⟩
  · obtain rfl : k = l.length := by omega
    have hn0 : tz n = 0 := by
     have : n = 0 := by rw [← HN.out]; exact val_0 h0.out
     rw [this]; rfl
    have HT := hid hn0; clear hn0; go_wp2_with fail
    go_ret
    exact ⟨by rw [HT.out]; rfl, rfl⟩
theorem list_app {ops : Array Oper} {rest : List Oper} {o : Oper} {a : Act} {w : World} {Q : Exit → Act → World → Prop} (hgd : o.guard = none) (s x : Operand) (t : TypeId)
 (ho : o.op = .call { callee := .builtin .append, args := #[s, x], argTypes := #[t, t] }) (base : Nat) (e : TypeId) (i : TypeInfo) (z : Value) (size bytes : Nat) (ht : Tryz.prog.underlying t = some (.slice e)) (hi : Tryz.prog.info? e = some i) (hz : i.zero = some z)
 (hsize : i.size = size) (hby : i.bytes = bytes) (hzs : z.cells.size = size) (hsz : 0 < size) (v : Value) (n : Nat) (xs : List Value) (hs : a.eval s = v) (hown : w.ownsRow base e size v n xs)
 (news : List Value) (hx : ∃ ad c, a.eval x = .slice (some ad) 1 c ∧ ∀ j u, news[j]? = some u → w.cell? (ad.add j) = some u) (hl : news.length = size) (h1 : ∀ u ∈ news, u.oneCell' = true)
 (h63 : n + 1 ≤ maxLen) (hbytes : (n + 1) * bytes ≤ 140737488355328) (hbase : base ≤ w.heap.size)
 (h : ∀ g cap w', w'.ownsRow base e size (.slice (some ⟨g, 0, none⟩) (n + 1) cap) (n + 1) (xs ++ news) → w.grownBy w' v.ownBlock → (v.ownBlock = some g ∨ g = w.heap.size) → g < w'.heap.size → wpList Tryz.prog ops Q rest (a.put o.dst (.slice (some ⟨g, 0, none⟩) (n + 1) cap)) w') :
 wpList Tryz.prog ops Q (o :: rest) a w := by
 obtain ⟨ad, c, hx, hn⟩ := hx; exact wpList_append_lies w hgd s x t ho base e i z size bytes ht hi hz hsize hby hzs hsz v n xs hs hown ad 1 c news hx (by omega) hn h1 (by omega) h63 hbytes hbase _ rfl h
theorem own_grow {w w' : World} {B0 E size n : Nat} {sv : Value} {xs : List Value} (h : w.ownsRow B0 E size sv n xs) (hB : B0 ≤ w.heap.size) (hg : w.grownBy w' sv.ownBlock) : Below B0 w w' := by
 refine Keeps.below ⟨hg.os, hg.tape, hg.output, hg.size, fun k hk _ => hg.block k (by omega) (fun e => ?_)⟩
 rcases h.2 with ⟨rfl, -⟩ | ⟨g, cap, cur, rfl, h1, -⟩
 · cases e
 · simp only [Value.ownBlock, Option.some.injEq] at e; omega
def u32s (L : List Nat) : List Value := L.map fun x : Nat => Value.int .u32 x
def Ow (w : World) (B : Nat) (v : Value) (L : List Nat) : Prop := w.ownsRow B 190 1 v L.length (u32s L)
theorem u32s_get (L : List Nat) (i : Nat) : (u32s L)[i]? = (L[i]?).map fun x : Nat => Value.int .u32 x := by simp [u32s]
theorem u32s_len (L : List Nat) : (u32s L).length = L.length := by simp [u32s]
theorem Ow.nil (w : World) (B : Nat) : Ow w B (.slice none 0 0) [] := ⟨rfl, .inl ⟨rfl, rfl⟩⟩
theorem Ow.wd {w : World} {B : Nat} {v : Value} {L : List Nat} (h : Ow w B v L) : Wd w v L ∧ Fresh B v := by
 rcases h.2 with ⟨rfl, h0⟩ | ⟨g, cap, cur, rfl, hB, hb, h1, h2, h3, h4⟩
 · exact ⟨.inl ⟨rfl, List.length_eq_zero_iff.1 h0⟩, Fresh.nil _⟩
 · refine ⟨.inr ⟨g, 0, cap, cur, rfl, hb, h1, fun i x hx => ?_⟩, Fresh.own hB⟩
   have := congrArg (fun t => t[i]?) h4
   simp only [u32s_get, hx, Option.map_some] at this; rw [Nat.mul_one, List.getElem?_take] at this
   split at this
   · rw [Array.getElem?_toList] at this; rw [Nat.zero_add, this]
   · cases this
theorem Ow.set {w : World} {B g cap : Nat} {n : Nat} {L : List Nat} (h : Ow w B (.slice (some ⟨g, 0, none⟩) n cap) L) (i x : Nat) (hi : i < L.length) : Ow (w.setCell ⟨g, i, none⟩ (.int .u32 x)) B (.slice (some ⟨g, 0, none⟩) n cap) (L.set i x) := by
 rcases h.2 with ⟨h0, -⟩ | ⟨k, c, cur, he, hB, hb, h1, h2, h3, h4⟩
 · cases h0
 · simp only [Value.slice.injEq, Option.some.injEq, Addr.mk.injEq] at he; obtain ⟨⟨rfl, -, -⟩, rfl, rfl⟩ := he; refine ⟨by rw [u32s_len]; omega, .inr ⟨_, _, cur.setIfInBounds i (.int .u32 x), ?_, hB, set_of_block hb i _, by rw [List.length_set]; exact h1, h2, by simpa using h3, ?_⟩⟩
   · rw [List.length_set]
   · rw [List.length_set, Array.toList_setIfInBounds, List.take_set, h4]; unfold u32s; rw [List.map_set]
theorem Ow.cell {w : World} {B g cap n : Nat} {L : List Nat} (h : Ow w B (.slice (some ⟨g, 0, none⟩) n cap) L) {i x : Nat} (hx : L[i]? = some x) : w.cell? ⟨g, i, none⟩ = some (.int .u32 x) ∧ w.frozen? ⟨g, i, none⟩ = false ∧ g < w.heap.size := by
 rcases h.2 with ⟨h0, -⟩ | ⟨k, c, cur, he, hB, hb, h1, h2, h3, h4⟩
 · cases h0
 · simp only [Value.slice.injEq, Option.some.injEq, Addr.mk.injEq] at he; obtain ⟨⟨rfl, -, -⟩, rfl, rfl⟩ := he; refine ⟨?_, free_of_block hb i, lt_of_block hb⟩
   rw [cell_of_block hb]; have := congrArg (fun t => t[i]?) h4
   simp only [u32s_get, hx, Option.map_some] at this; rw [Nat.mul_one, List.getElem?_take] at this
   split at this
   · rw [Array.getElem?_toList] at this; exact this
   · cases this
theorem set_row (o D : List Nat) (d z : Nat) : (o ++ d :: D).set o.length z = (o ++ [z]) ++ D := by
 rw [List.set_append_right _ _ (Nat.le_refl _), Nat.sub_self, List.set_cons_zero]
 simp
theorem get_row (o D : List Nat) (d : Nat) : (o ++ d :: D)[o.length]? = some d := by
 rw [List.getElem?_append_right (Nat.le_refl _), Nat.sub_self]; rfl
theorem Ow.form {w : World} {B : Nat} {v : Value} {L : List Nat} (h : Ow w B v L) (h0 : 0 < L.length) : ∃ g cap, v = .slice (some ⟨g, 0, none⟩) L.length cap ∧ B ≤ g ∧ L.length ≤ cap := by
 rcases h.2 with ⟨-, h1⟩ | ⟨g, cap, cur, h1, h2, -, h3, -⟩
 · omega
 · exact ⟨g, cap, h1, h2, h3⟩
set_option maxHeartbeats 8000000 in
theorem bmulSmall (B : Nat) (va : Value) (n m c : Nat) (w : World) (ha : Ow w B va (words n)) (hn : (words n).length ≤ 549755813888) (hm : m < 4294967296) (hm0 : 0 < m) (hc : c < 4294967296) (hBw : B ≤ w.heap.size) :
 Calls Tryz.prog 244 #[va, .int .u32 m, .int .u32 c] w fun e w' => ∃ v, e = .returned v ∧ Ow w' B v (words (n * m + c)) ∧ Below B w w' := by
 obtain ⟨ti, hti, htz, hts, htb⟩ := info_parts info32; have okm := words_ok n; have vm := val_words n; have fin : Hid (∀ o : List Nat, ∀ cy, o.length = (words n).length → Wok o → cy < 4294967296 → val o + 4294967296 ^ (words n).length * cy = n * m + c → (cy = 0 → o = words (n * m + c)) ∧ (cy ≠ 0 → o ++ [cy] = words (n * m + c))) := hid (fun o cy h1 h2 h3 h4 => ⟨(mul_small_fin hm0 h1 h2 h3 h4).1, (mul_small_fin hm0 h1 h2 h3 h4).2.1⟩)
 generalize words n = l at okm vm ha hn fin ⊢; have VM := hid vm; have OKl := hid okm; clear okm vm; have ec : IntKind.u64.wrap (c : Int) = (c : Int) := by rw [IntKind.wrap_u64]; omega
 have em : IntKind.u64.wrap (m : Int) = (m : Int) := by rw [IntKind.wrap_u64]; omega
 obtain ⟨R, hR⟩ : ∃ R, R = words (n * m + c) := ⟨_, rfl⟩; rw [← hR] at fin ⊢; clear hR
 have hle : ∃ cap, ∃ a, va = .slice a l.length cap ∧ l.length ≤ cap := by
  obtain ⟨a, cap, h1, h2, -⟩ := ha.wd.1.form; exact ⟨cap, a, h1, h2⟩
 obtain ⟨cap, ad, rfl, hcap⟩ := hle; have HF := hid (fun h => Ow.form ha h)
 have HA := hid ha; clear ha; go_enter Tryz.func244, Tryz.ntmps244; go_wp2_with fail
 go_loopw [7, 8, 9] (fun s7 s8 s9 wr => ∃ (j cy : Nat) (o : List Nat), s7 = .int .u64 cy ∧ s8 = .int .i64 j ∧ j ≤ l.length ∧ cy < 4294967296 ∧ o.length = j ∧ Hid (Wok o) ∧ Hid (Ow wr B (.slice ad l.length cap) (o ++ l.drop j)) ∧ Hid (val o + 4294967296 ^ j * cy = val (l.take j) * m + c) ∧ Hid (Below B w wr)) (fun s7 s8 s9 _ => l.length - (intOf s8).toNat)
 case atStart => exact ⟨0, c, [], rfl, rfl, Nat.zero_le _, hc, rfl, hid Wok.nil, hid HA.out, hid (by simp [val]), hid (Below.refl _ _)⟩
 case round =>
  obtain ⟨j, cy, o, rfl, rfl, hj, hcy, hol, hok, hR, hS, hB⟩ := hrel; by_cases hjl : j < l.length
  · obtain ⟨ga, cp, hsl, hga, hcp⟩ := HF.out (by omega)
    simp only [Value.slice.injEq] at hsl; obtain ⟨rfl, -, rfl⟩ := hsl; have hx : l[j]? = some l[j] := List.getElem?_eq_getElem hjl; have hdr := List.drop_eq_getElem_cons hjl; obtain ⟨x, hxx⟩ : ∃ x, x = l[j] := ⟨_, rfl⟩; rw [← hxx] at hx hdr; have hxB := OKl.out.get hx; have hR2 := hR.out; rw [hdr] at hR2; obtain ⟨co, fo, hgw⟩ := hR2.cell (get_row o (l.drop (j + 1)) x); rw [hol] at co fo; haveI : Has wr ga := ⟨hgw⟩; have hj0 : (0 : Int) ≤ (j : Int) := by omega
    have hjl' : (j : Int) < (l.length : Int) := by omega
    have hxyB := mul_words_lt hxB hm; obtain ⟨xy, hxy⟩ : ∃ xy, xy = x * m := ⟨_, rfl⟩; have hxyI : (x : Int) * (m : Int) = (xy : Int) := by rw [hxy]; simp
    obtain ⟨t, ht⟩ : ∃ t, t = cy + xy := ⟨_, rfl⟩; have st := carry_step hol hS.out t ht
    have ST : Hid (val (o ++ [t % 4294967296]) + 4294967296 ^ (j + 1) * (t / 4294967296) = val (l.take (j + 1)) * m + c) := hid (by
     rw [st, val_take hx, hxy, Nat.add_mul, Nat.mul_assoc]; omega)
    rw [← hxy] at hxyB; have htB : t / 4294967296 < 4294967296 := by omega
    have e1 : IntKind.u64.wrap (x : Int) = (x : Int) := by rw [IntKind.wrap_u64]; omega
    have e3 : IntKind.u64.wrap ((x : Int) * (m : Int)) = (xy : Int) := by rw [hxyI, IntKind.wrap_u64]; omega
    have e4 : IntKind.u64.wrap ((xy : Int) + (cy : Int)) = (t : Int) := by rw [IntKind.wrap_u64]; omega
    have e4b : (xy : Int) + (cy : Int) = (t : Int) := by omega
    have e5 : IntKind.u32.wrap (t : Int) = ((t % 4294967296 : Nat) : Int) := by rw [IntKind.wrap_u32]; omega
    have e6 : (t : Int) / 4294967296 = ((t / 4294967296 : Nat) : Int) := by omega
    have RN : Hid (Ow (wr.setCell ⟨ga, j, none⟩ (.int .u32 ((t % 4294967296 : Nat) : Int))) B (.slice (some ⟨ga, 0, none⟩) l.length cap) ((o ++ [t % 4294967296]) ++ l.drop (j + 1))) := hid (by have := hR2.set j (t % 4294967296) (by simp [hol]); rw [← hol, set_row] at this; rw [← hol]; exact this)
    have ON : Hid (Wok (o ++ [t % 4294967296])) := hid (hok.out.append (Wok.cons (Nat.mod_lt _ (by decide)) Wok.nil))
    have BN : Hid (Below B w (wr.setCell ⟨ga, j, none⟩ (.int .u32 ((t % 4294967296 : Nat) : Int)))) := hid ((Keeps.of_below (S := []) hB.out).set (Or.inr hga) _ _).below; have hon : (o ++ [t % 4294967296]).length = j + 1 := by simp [hol]
    clear st hx hxx hdr hR2 ht hxy hxyI; generalize t % 4294967296 = tl at e5 RN ON BN hon ST ⊢; generalize t / 4294967296 = th at e6 htB ST ⊢; go_wp2_with fail
    go_roundw
    case rel => exact ⟨j + 1, th, o ++ [tl], by rfl, by rfl, by omega, htB, hon, ON, RN, ST, BN⟩
    case measure => simp [intOf]; omega
  · obtain rfl : j = l.length := by omega
    have hR2 := hR.out; rw [List.drop_length, List.append_nil] at hR2; have h1 := hS.out; rw [List.take_length, VM.out] at h1; obtain ⟨f1, f2⟩ := fin.out o cy hol hok.out hcy h1; by_cases hcy0 : cy = 0
    · have F1 := hid (f1 hcy0); subst hcy0; have R2 := hid hR2; clear hR2 h1 f1 f2; go_wp2_with fail
      go_ret
      exact ⟨_, rfl, by rw [← F1.out]; exact R2.out, hB.out⟩
    · have hcy1 : (0 : Int) < (cy : Int) := by omega
      have hcy' : IntKind.u32.wrap (cy : Int) = (cy : Int) := by rw [IntKind.wrap_u32]; omega
      have F2 := hid (f2 hcy0)
      have R2 : Hid (Ow (wr.alloc (.cells #[.int .u32 (cy : Int)] 190)) B (.slice ad l.length cap) o) := hid (by
       rcases hR2.2 with h | ⟨k, c, cur, he, hBk, hb, h1, h2, h3, h4⟩
       · exact ⟨hR2.1, .inl h⟩
       · exact ⟨hR2.1, .inr ⟨k, c, cur, he, hBk, (Below.heap_alloc _ _ _ (lt_of_block hb)).trans hb, h1, h2, h3, h4⟩⟩)
      have hBs : B ≤ wr.heap.size := Nat.le_trans hBw hB.out.size; have hol2 : Hid (o.length = l.length) := hid hol; clear hR2 h1 f1 f2 hol; obtain ⟨Q, hQ⟩ : ∃ Q, Q = words (n * m + c) := ⟨_, rfl⟩; clear hQ; go_wp2_with (at_builtin; refine list_app (by rfl) _ _ _ (by rfl) B 190 ti _ 1 4 Tryz.underlying84 hti htz hts htb rfl (by omega) (.slice ad l.length cap) l.length (u32s o) (by rfl) (by have := R2.out; unfold Ow at this; rw [hol2.out] at this; exact this) [.int .u32 (cy : Int)] ⟨_, _, rfl, World.news_of_block (cs := #[.int .u32 (cy : Int)]) (t := 190) (fr := (0, 0)) (by simp only [block_at])⟩ (by rfl) (by simp [Value.oneCell']) (by unfold maxLen; omega) (by omega) (by simp; omega) ?_; intro g cp wa hown hgrow hat hlt)
      go_ret
      refine ⟨_, rfl, ?_, ?_⟩
      · unfold Ow; rw [← F2.out, List.length_append, List.length_singleton, hol2.out]; unfold u32s at hown ⊢; rw [List.map_append]; exact hown
      · have hb2 : Below B w (wr.alloc (.cells #[.int .u32 (cy : Int)] 190)) := Below.alloc hB.out hBs _; exact Below.trans hb2 (own_grow R2.out (by simp; omega) hgrow)
structure Lh (X Y x y u1 u2 v1 v2 : Nat) (ev : Bool) : Prop where
 hX : X = v2 * x + v1 * y
 hY : Y = u2 * x + u1 * y
 det : if ev then v1 * u2 = v2 * u1 + 1 else u1 * v2 = u2 * v1 + 1
 xy : y ≤ x
 st : (ev = false ∧ u1 = 1 ∧ u2 = 0 ∧ v1 = 0 ∧ v2 = 1) ∨ (u1 ≤ v1 ∧ u2 ≤ v2 ∧ 1 ≤ u2)
 v12 : v1 ≤ v2
 v2p : 1 ≤ v2
theorem Lh.start {X Y : Nat} (h : Y ≤ X) : Lh X Y X Y 1 0 0 1 false := ⟨by omega, by omega, by simp, h, .inl ⟨rfl, rfl, rfl, rfl, rfl⟩, by omega, by omega⟩
theorem Lh.step {X Y x y u1 u2 v1 v2 : Nat} {ev : Bool} (L : Lh X Y x y u1 u2 v1 v2 ev) (hy : 0 < y) : Lh X Y y (x - x / y * y) u2 (u1 + x / y * u2) v2 (v1 + x / y * v2) (!ev) := by
 obtain ⟨h1, h2, h3, h4, h5, h6, h7⟩ := L; obtain ⟨q, hq⟩ : ∃ q, q = x / y := ⟨_, rfl⟩; obtain ⟨r, hr⟩ : ∃ r, r = x - x / y * y := ⟨_, rfl⟩; have hle : x / y * y ≤ x := Nat.div_mul_le_self x y; have hx : x = q * y + r := by rw [hq, hr]; omega
 have hlt : r < y := by
  have := Nat.mod_lt x hy; have e := Nat.div_add_mod' x y; omega
 have hq1 : 1 ≤ q := by
  rw [hq]; exact (Nat.one_le_div_iff hy).2 h4
 rw [← hr, ← hq]; refine ⟨?_, ?_, ?_, by omega, .inr ?_, ?_, ?_⟩
 · rw [h1, hx, Nat.mul_add, Nat.add_mul]; rw [show v2 * (q * y) = q * v2 * y by rw [← Nat.mul_assoc, Nat.mul_comm v2 q]]
   omega
 · rw [h2, hx, Nat.mul_add, Nat.add_mul]; rw [show u2 * (q * y) = q * u2 * y by rw [← Nat.mul_assoc, Nat.mul_comm u2 q]]
   omega
 · cases ev
   · simp only [Bool.not_false, if_true, Bool.false_eq_true, if_false] at h3 ⊢; rw [Nat.mul_add, Nat.add_mul, Nat.mul_comm v2 u1, h3]; rw [show v2 * (q * u2) = q * v2 * u2 by rw [← Nat.mul_assoc, Nat.mul_comm v2 q], Nat.mul_comm v1 u2]
     omega
   · simp only [Bool.not_true, if_true, Bool.false_eq_true, if_false] at h3 ⊢; rw [Nat.mul_add, Nat.add_mul, Nat.mul_comm u2 v1, h3]; rw [show u2 * (q * v2) = q * u2 * v2 by rw [← Nat.mul_assoc, Nat.mul_comm u2 q], Nat.mul_comm u1 v2]
     omega
 · rcases h5 with ⟨-, rfl, rfl, rfl, rfl⟩ | ⟨h8, h9, h10⟩
   · omega
   · have := Nat.mul_le_mul_left q h9; have := Nat.mul_le_mul hq1 h10; omega
 · have := Nat.mul_le_mul hq1 (Nat.le_refl v2); omega
 · have := Nat.mul_le_mul hq1 h7; omega
theorem lehmer_core {A B X Y N α β x y p1 p2 q1 q2 : Nat} (hA : A = X * N + α) (hB : B = Y * N + β) (hα : α < N) (hβ : β < N) (hX : X = q2 * x + q1 * y) (hY : Y = p2 * x + p1 * y) (det : p1 * q2 = p2 * q1 + 1) (hp : p2 ≤ y) (hd : q1 + q2 ≤ x - y) (hxy : y ≤ x) (hq : 1 ≤ q1 + q2) :
 q1 * B ≤ p1 * A ∧ p2 * A ≤ q2 * B ∧ q2 * B - p2 * A < p1 * A - q1 * B ∧ A = q2 * (p1 * A - q1 * B) + q1 * (q2 * B - p2 * A) ∧ B = p2 * (p1 * A - q1 * B) + p1 * (q2 * B - p2 * A) := by
 have e1 : p1 * X = q1 * Y + x := by
  have a1 : p1 * X = p1 * q2 * x + p1 * q1 * y := by rw [hX, Nat.mul_add, Nat.mul_assoc, Nat.mul_assoc]
  have a2 : q1 * Y = p2 * q1 * x + p1 * q1 * y := by rw [hY, Nat.mul_add, ← Nat.mul_assoc, ← Nat.mul_assoc, Nat.mul_comm q1 p2, Nat.mul_comm q1 p1]
  rw [a1, a2, det, Nat.add_mul]; omega
 have e2 : q2 * Y = p2 * X + y := by
  have a1 : q2 * Y = p2 * q2 * x + p1 * q2 * y := by rw [hY, Nat.mul_add, ← Nat.mul_assoc, ← Nat.mul_assoc, Nat.mul_comm q2 p2, Nat.mul_comm q2 p1]
  have a2 : p2 * X = p2 * q2 * x + p2 * q1 * y := by rw [hX, Nat.mul_add, Nat.mul_assoc, Nat.mul_assoc]
  rw [a1, a2, det, Nat.add_mul]; omega
 have f1 : p1 * A + q1 * β = q1 * B + x * N + p1 * α := by
  rw [hA, hB, Nat.mul_add, Nat.mul_add, ← Nat.mul_assoc, ← Nat.mul_assoc, e1, Nat.add_mul]; omega
 have f2 : q2 * B + p2 * α = p2 * A + y * N + q2 * β := by
  rw [hA, hB, Nat.mul_add, Nat.mul_add, ← Nat.mul_assoc, ← Nat.mul_assoc, e2, Nat.add_mul]; omega
 have g1 : q1 * β ≤ x * N := Nat.mul_le_mul (by omega) (Nat.le_of_lt hβ)
 have g2 : p2 * α ≤ y * N := Nat.mul_le_mul hp (Nat.le_of_lt hα)
 have g3 : (q1 + q2) * β < (x - y) * N := by
  have h1 : (q1 + q2) * β < (q1 + q2) * N := Nat.mul_lt_mul_of_pos_left hβ (by omega)
  exact Nat.lt_of_lt_of_le h1 (Nat.mul_le_mul_right _ hd)
 rw [Nat.add_mul, Nat.sub_mul] at g3; have g4 : y * N ≤ x * N := Nat.mul_le_mul_right _ hxy; have k1 : q1 * B ≤ p1 * A := by omega
 have k2 : p2 * A ≤ q2 * B := by omega
 refine ⟨k1, k2, by omega, ?_, ?_⟩
 · rw [Nat.mul_sub, Nat.mul_sub, ← Nat.mul_assoc, ← Nat.mul_assoc, ← Nat.mul_assoc, ← Nat.mul_assoc, Nat.mul_comm q2 p1, det, Nat.mul_comm q1 q2, Nat.mul_comm q1 p2, Nat.add_mul, Nat.one_mul]
   have m1 : q2 * q1 * B ≤ p2 * q1 * A + A := by
    have := Nat.mul_le_mul_left q2 k1; rw [← Nat.mul_assoc, ← Nat.mul_assoc, Nat.mul_comm q2 p1, det, Nat.add_mul, Nat.one_mul] at this; exact this
   have m2 : p2 * q1 * A ≤ q2 * q1 * B := by
    have := Nat.mul_le_mul_left q1 k2; rw [← Nat.mul_assoc, ← Nat.mul_assoc, Nat.mul_comm q1 p2, Nat.mul_comm q1 q2] at this; exact this
   omega
 · rw [Nat.mul_sub, Nat.mul_sub, ← Nat.mul_assoc, ← Nat.mul_assoc, ← Nat.mul_assoc, ← Nat.mul_assoc, det, Nat.mul_comm p1 p2, Nat.add_mul, Nat.one_mul]
   have m1 : p2 * q1 * B ≤ p2 * p1 * A := by
    have := Nat.mul_le_mul_left p2 k1; rw [← Nat.mul_assoc, ← Nat.mul_assoc] at this; exact this
   have m2 : p2 * p1 * A ≤ p2 * q1 * B + B := by
    have := Nat.mul_le_mul_left p1 k2; rw [← Nat.mul_assoc, ← Nat.mul_assoc, det, Nat.mul_comm p1 p2, Nat.add_mul, Nat.one_mul] at this; exact this
   omega
theorem gcd_turn {A B a b p1 p2 q1 q2 : Nat} (ha : a = p1 * A - q1 * B) (hb : b = q2 * B - p2 * A) (hA : A = q2 * a + q1 * b) (hB : B = p2 * a + p1 * b) : Nat.gcd a b = Nat.gcd A B := by
 refine Nat.dvd_antisymm (Nat.dvd_gcd ?_ ?_) (Nat.dvd_gcd ?_ ?_)
 · rw [hA]; exact Nat.dvd_add (Nat.dvd_mul_left_of_dvd (Nat.gcd_dvd_left a b) _) (Nat.dvd_mul_left_of_dvd (Nat.gcd_dvd_right a b) _)
 · rw [hB]; exact Nat.dvd_add (Nat.dvd_mul_left_of_dvd (Nat.gcd_dvd_left a b) _) (Nat.dvd_mul_left_of_dvd (Nat.gcd_dvd_right a b) _)
 · rw [ha]; exact Nat.dvd_sub (Nat.dvd_mul_left_of_dvd (Nat.gcd_dvd_left A B) _) (Nat.dvd_mul_left_of_dvd (Nat.gcd_dvd_right A B) _)
 · rw [hb]; exact Nat.dvd_sub (Nat.dvd_mul_left_of_dvd (Nat.gcd_dvd_right A B) _) (Nat.dvd_mul_left_of_dvd (Nat.gcd_dvd_left A B) _)
theorem lehmer_round {A B N x y u1 u2 v1 v2 : Nat} {ev : Bool} (hN : 0 < N) (L : Lh (A / N) (B / N) x y u1 u2 v1 v2 ev) (hy : v2 ≤ y) (hd : v1 + v2 ≤ x - y) (hv : v1 ≠ 0) :
 (ev = false → v1 * B ≤ u1 * A ∧ u2 * A ≤ v2 * B ∧ v2 * B - u2 * A < u1 * A - v1 * B ∧ u1 * A - v1 * B ≤ B ∧ Nat.gcd (u1 * A - v1 * B) (v2 * B - u2 * A) = Nat.gcd A B) ∧
 (ev = true → u1 * A ≤ v1 * B ∧ v2 * B ≤ u2 * A ∧ u2 * A - v2 * B < v1 * B - u1 * A ∧ v1 * B - u1 * A ≤ B ∧ Nat.gcd (v1 * B - u1 * A) (u2 * A - v2 * B) = Nat.gcd A B) := by
 obtain ⟨h1, h2, h3, h4, h5, h6, h7⟩ := L; rcases h5 with ⟨-, -, -, h, -⟩ | ⟨h8, h9, h10⟩
 · exact absurd h hv
 have hA : A = A / N * N + A % N := (Nat.div_add_mod' A N).symm; have hB : B = B / N * N + B % N := (Nat.div_add_mod' B N).symm; have hα := Nat.mod_lt A hN; have hβ := Nat.mod_lt B hN; refine ⟨fun e => ?_, fun e => ?_⟩
 · subst e; simp only [Bool.false_eq_true, if_false] at h3; obtain ⟨c1, c2, c3, c4, c5⟩ := lehmer_core hA hB hα hβ h1 h2 h3 (by omega) hd h4 (by omega)
   refine ⟨c1, c2, c3, ?_, gcd_turn rfl rfl c4 c5⟩
   have := Nat.mul_le_mul_right (u1 * A - v1 * B) h10; omega
 · subst e; simp only [if_true] at h3; obtain ⟨c1, c2, c3, c4, c5⟩ := lehmer_core hB hA hβ hα h2 h1 h3 hy (by omega) h4 (by omega)
   refine ⟨c1, c2, c3, ?_, ?_⟩
   · have := Nat.mul_le_mul_right (v1 * B - u1 * A) h10; omega
   · rw [gcd_turn rfl rfl c4 c5, Nat.gcd_comm]
theorem Lh.small {X Y x y u1 u2 v1 v2 : Nat} {ev : Bool} (L : Lh X Y x y u1 u2 v1 v2 ev) (hX : X < 2 ^ 60) (hy : v2 ≤ y) : v2 < 2 ^ 30 ∧ v1 < 2 ^ 30 ∧ u1 < 2 ^ 30 ∧ u2 < 2 ^ 30 := by
 obtain ⟨h1, h2, h3, h4, h5, h6, h7⟩ := L; have a1 : v2 * v2 ≤ v2 * x := Nat.mul_le_mul_left _ (by omega)
 have a2 : v2 < 2 ^ 30 := by
  rcases Nat.lt_or_ge v2 (2 ^ 30) with h | h
  · exact h
  · have := Nat.mul_le_mul h h; have e : (2 : Nat) ^ 30 * 2 ^ 30 = 2 ^ 60 := by decide
    omega
 refine ⟨a2, by omega, ?_, ?_⟩
 · rcases h5 with ⟨-, rfl, -⟩ | ⟨h8, h9, h10⟩
   · decide
   · omega
 · rcases h5 with ⟨-, -, rfl, -⟩ | ⟨h8, h9, h10⟩
   · decide
   · omega
structure Fg (U V K num vt vs u2 : Nat) : Prop where
 hV : ∃ v', V = (vt * 4294967296 + vs) * K + v' ∧ v' < K
 hU : ∃ u', U = (num * 4294967296 + u2) * K + u' ∧ u' < K
 lt : U < V * 4294967296
 top : 2147483648 ≤ vt
 vt : vt < 4294967296
 vs : vs < 4294967296
 u2 : u2 < 4294967296
theorem Fg.pos {U V K num vt vs u2 : Nat} (F : Fg U V K num vt vs u2) : 0 < V ∧ 0 < K := by
 obtain ⟨v', hv, hv'⟩ := F.hV; have hK : 0 < K := by omega
 have h1 : 1 * K ≤ (vt * 4294967296 + vs) * K := Nat.mul_le_mul_right _ (by have := F.top; omega)
 exact ⟨by omega, hK⟩
theorem Fg.num_le {U V K num vt vs u2 : Nat} (F : Fg U V K num vt vs u2) : num ≤ vt * 4294967296 + vs := by
 obtain ⟨v', hv, hv'⟩ := F.hV; obtain ⟨u', hu, hu'⟩ := F.hU; rcases Nat.lt_or_ge (vt * 4294967296 + vs) num with h | h
 · exfalso
   have h1 : (vt * 4294967296 + vs + 1) * K ≤ num * K := Nat.mul_le_mul_right _ h; rw [Nat.add_mul, Nat.one_mul] at h1; have h2 := F.lt; have h3 : num * 4294967296 * K ≤ (num * 4294967296 + u2) * K := Nat.mul_le_mul_right _ (by omega)
   rw [show num * 4294967296 * K = num * K * 4294967296 by rw [Nat.mul_assoc, Nat.mul_comm 4294967296 K, ← Nat.mul_assoc]] at h3
   have h4 : V < num * K := by omega
   have h5 : V * 4294967296 < num * K * 4294967296 := Nat.mul_lt_mul_of_pos_right h4 (by decide)
   rw [hu] at h2; omega
 · exact h
theorem Fg.start {U V K num vt vs u2 : Nat} (F : Fg U V K num vt vs u2) : U / V ≤ num / vt ∧ num / vt ≤ 4294967297 := by
 obtain ⟨v', hv, hv'⟩ := F.hV; obtain ⟨u', hu, hu'⟩ := F.hU; have hn := F.num_le; have ht := F.top; have hs := F.vs; have h0 := F.u2; refine ⟨?_, ?_⟩
 · rw [Nat.le_div_iff_mul_le (by omega)]
   obtain ⟨q, hq⟩ : ∃ q, q = U / V := ⟨_, rfl⟩; rw [← hq]; have h1 : q * V ≤ U := by rw [hq]; exact Nat.div_mul_le_self U V
   rcases Nat.lt_or_ge num (q * vt) with h | h
   · exfalso
     have h2 : q * (vt * 4294967296 * K) ≤ q * V := Nat.mul_le_mul_left _ (by rw [hv]; exact Nat.le_trans (Nat.mul_le_mul_right K (Nat.le_add_right (vt * 4294967296) vs)) (Nat.le_add_right _ _))
     have h3 : (num + 1) * (4294967296 * K) ≤ q * vt * (4294967296 * K) := Nat.mul_le_mul_right _ h; rw [show q * (vt * 4294967296 * K) = q * vt * (4294967296 * K) by rw [Nat.mul_assoc vt, Nat.mul_assoc]] at h2
     have h4 : (num * 4294967296 + u2) * K + K ≤ (num + 1) * (4294967296 * K) := by
      rw [show (num + 1) * (4294967296 * K) = (num * 4294967296 + 4294967296) * K by rw [← Nat.mul_assoc, Nat.add_mul num 1, Nat.one_mul]]
      rw [← Nat.succ_mul]; exact Nat.mul_le_mul_right _ (by omega)
     omega
   · exact h
 · have h1 : num / vt < 4294967298 := by
    rw [Nat.div_lt_iff_lt_mul (by omega)]
    omega
   omega
theorem Fg.down {U V K num vt vs u2 g r : Nat} (F : Fg U V K num vt vs u2) (hg : g * vt + r = num) (hq : U / V ≤ g) (hc : 4294967296 ≤ g ∨ r * 4294967296 + u2 < g * vs) : 1 ≤ g ∧ (g - 1) * vt + (r + vt) = num ∧ U / V ≤ g - 1 := by
 obtain ⟨v', hv, hv'⟩ := F.hV; obtain ⟨u', hu, hu'⟩ := F.hU; obtain ⟨hVp, hKp⟩ := F.pos
 have g1 : 1 ≤ g := by
  rcases hc with h | h
  · omega
  · rcases Nat.eq_zero_or_pos g with h0 | h0
    · subst h0; simp at h
    · exact h0
 have e : (g - 1) * vt + (r + vt) = num := by
  obtain ⟨j, rfl⟩ : ∃ j, g = j + 1 := ⟨g - 1, by omega⟩
  rw [Nat.add_sub_cancel]; rw [Nat.add_mul, Nat.one_mul] at hg; omega
 refine ⟨g1, e, ?_⟩
 have hlt : U / V < g := by
  rcases hc with h | h
  · have : U / V < 4294967296 := by rw [Nat.div_lt_iff_lt_mul hVp, Nat.mul_comm]; exact F.lt
    omega
  · rw [Nat.div_lt_iff_lt_mul hVp]
    have h1 : (num * 4294967296 + u2 + 1) ≤ g * (vt * 4294967296 + vs) := by
     rw [Nat.mul_add, ← hg, Nat.add_mul]; rw [show g * (vt * 4294967296) = g * vt * 4294967296 by rw [Nat.mul_assoc]]
     omega
    have h2 := Nat.mul_le_mul_right K h1; rw [Nat.add_mul, Nat.one_mul] at h2; have h3 : g * (vt * 4294967296 + vs) * K ≤ g * V := by rw [Nat.mul_assoc]; exact Nat.mul_le_mul_left _ (by omega)
    omega
 omega
theorem Fg.stop {U V K num vt vs u2 g r : Nat} (F : Fg U V K num vt vs u2) (hg : g * vt + r = num) (hr : r < 4294967296) (hb : 4294967296 ≤ r + vt) (g1 : 1 ≤ g) : g - 1 < 4294967296 := by
 have hn := F.num_le; have ht := F.top; have hs := F.vs; rcases Nat.lt_or_ge (g - 1) 4294967296 with h | h
 · exact h
 · exfalso
   have h1 : 4294967297 * vt ≤ g * vt := Nat.mul_le_mul_right _ (by omega)
   omega
theorem Fg.fin {U V K num vt vs u2 g r : Nat} (F : Fg U V K num vt vs u2) (hg : g * vt + r = num) (hB : g < 4294967296) (hc : g * vs ≤ r * 4294967296 + u2 ∨ 4294967296 ≤ r) : g ≤ U / V + 1 := by
 obtain ⟨v', hv, hv'⟩ := F.hV; obtain ⟨u', hu, hu'⟩ := F.hU; obtain ⟨hVp, hKp⟩ := F.pos; have hs := F.vs; have ht := F.top
 have hc' : g * vs ≤ r * 4294967296 + u2 := by
  rcases hc with h | h
  · exact h
  · have h1 : g * vs ≤ 4294967296 * 4294967296 := Nat.mul_le_mul (by omega) (by omega)
    omega
 rcases Nat.eq_zero_or_pos g with h0 | h0
 · rw [h0]; exact Nat.zero_le _
 have h1 : g * (vt * 4294967296 + vs) ≤ num * 4294967296 + u2 := by
  have a1 : g * (vt * 4294967296 + vs) = g * vt * 4294967296 + g * vs := by rw [Nat.mul_add, ← Nat.mul_assoc]
  have a2 : num * 4294967296 = g * vt * 4294967296 + r * 4294967296 := by rw [← hg, Nat.add_mul]
  omega
 have h2 := Nat.mul_le_mul_right K h1; have h3 : g * v' ≤ g * K := Nat.mul_le_mul_left _ (by omega)
 have h4 : g * K ≤ 4294967296 * K := Nat.mul_le_mul_right _ (by omega)
 have h5 : 4294967296 * K ≤ vt * 4294967296 * K := Nat.mul_le_mul_right _ (by omega)
 have h6 : g * V ≤ U + V := by
  rw [hv, Nat.mul_add, ← Nat.mul_assoc, hu, Nat.add_mul (vt * 4294967296)]; omega
 have h7 : g - 1 ≤ U / V := by
  rw [Nat.le_div_iff_mul_le hVp, Nat.sub_mul, Nat.one_mul]; omega
 exact Nat.sub_le_iff_le_add.1 h7
theorem figure_exact {U V g : Nat} (hV : 0 < V) (h1 : U / V ≤ g) (h2 : g ≤ U / V + 1) : (g * V ≤ U → g = U / V) ∧ (U < g * V → g = U / V + 1 ∧ U + V - g * V = U % V ∧ g * V ≤ U + V) := by
 have e := Nat.div_add_mod' U V; have m := Nat.mod_lt U hV; refine ⟨fun h => ?_, fun h => ?_⟩
 · have : g ≤ U / V := (Nat.le_div_iff_mul_le hV).2 h; omega
 · have hg : g = U / V + 1 := by
    rcases Nat.lt_or_ge g (U / V + 1) with h3 | h3
    · exfalso
      have : g = U / V := by omega
      rw [this] at h; have := Nat.div_mul_le_self U V; omega
    · omega
   refine ⟨hg, ?_, ?_⟩
   · rw [hg, Nat.add_mul, Nat.one_mul]; omega
   · rw [hg, Nat.add_mul, Nat.one_mul]; omega
end Go.Proofs.YthjeejnggpjnjaaGreatDoor
