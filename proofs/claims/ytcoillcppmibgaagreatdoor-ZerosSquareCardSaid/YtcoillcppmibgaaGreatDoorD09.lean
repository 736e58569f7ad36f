/- Division: the short ways. Division: the long way. Bits of words, and two products together. -/
import Derived.Test.YtcoillcppmibgaaGreatDoorD08
set_option linter.unusedSimpArgs false
set_option linter.unusedVariables false
namespace Go.Proofs.YtcoillcppmibgaaGreatDoor
section
open Go.RowKit
namespace Big
theorem bl_mul_pow {n : Nat} (h : n ≠ 0) (s : Nat) : bl (n * 2 ^ s) = bl n + s := by
  have hp : 0 < 2 ^ s := Nat.pow_pos (by decide)
  have := bl_shift (n * 2 ^ s) s (Nat.le_mul_of_pos_left _ (Nat.pos_of_ne_zero h))
  rw [Nat.mul_div_cancel _ hp] at this
  omega
/-- What is divided by begins with a one. -/
theorem top_shift {n x s : Nat} (h : n ≠ 0) (hx : (words n)[(words n).length - 1]? = some x) (hs : s = 32 - bl x) :
    (words (n * 2 ^ s)).length = (words n).length ∧ ∃ y, (words (n * 2 ^ s))[(words n).length - 1]? = some y ∧ 2147483648 ≤ y := by
  have hxB := (words_ok n).get hx
  have h32 := bl_le32 hxB
  have hp : 0 < 2 ^ s := Nat.pow_pos (by decide)
  have hn2 : n * 2 ^ s ≠ 0 := Nat.mul_ne_zero h (by omega)
  have e := bl_words h hx
  have e2 := bl_mul_pow h s
  have hl : (words n).length ≠ 0 := fun e0 => h (words_len0.1 e0)
  have e3 : bl (n * 2 ^ s) = 32 * (words n).length := by rw [e2, e, hs]; omega
  have hlt := bl_lt (n * 2 ^ s)
  rw [e3, Nat.pow_mul] at hlt
  have l1 := words_len_le hlt
  have l2 := len_mono (show n ≤ n * 2 ^ s from Nat.le_mul_of_pos_right n hp)
  have hlen : (words (n * 2 ^ s)).length = (words n).length := by omega
  refine ⟨hlen, ?_⟩
  obtain ⟨y, hy⟩ : ∃ y, (words (n * 2 ^ s))[(words n).length - 1]? = some y := ⟨_, List.getElem?_eq_getElem (by omega)⟩
  refine ⟨y, hy, ?_⟩
  have e4 := bl_words hn2 (by rw [hlen]; exact hy)
  rw [e3, hlen] at e4
  have hb : bl y = 32 := by omega
  have hy0 : y ≠ 0 := by
    rintro rfl
    simp [bl] at hb
  have := bl_le hy0
  rw [hb] at this
  simpa using this
theorem div_start {l : List Nat} {m n s la lb jj : Nat} (hok : Wok l) (hl : l.length = la + 1) (hv : val l = m * 2 ^ s) (hm : m < 4294967296 ^ la) (hn : 4294967296 ^ (lb - 1) ≤ n) (hlb : 1 ≤ lb) (hla : lb ≤ la) (hjj : jj = la - lb + 1) : val (l.drop jj) < n * 2 ^ s := by
  have hp : 0 < 2 ^ s := Nat.pow_pos (by decide)
  rw [val_drop_div hok (by omega), hv, Nat.div_lt_iff_lt_mul (Nat.pow_pos (by decide)), Nat.mul_assoc, Nat.mul_comm (2 ^ s), ← Nat.mul_assoc]
  refine Nat.mul_lt_mul_of_pos_right (Nat.lt_of_lt_of_le hm ?_) hp
  rw [show la = (lb - 1) + jj by omega, Nat.pow_add]
  exact Nat.mul_le_mul_right _ hn
theorem div_step {lo : List Nat} {j x u M V Q : Nat} (hlo : lo.length = j) (h : val (lo ++ [x]) + 4294967296 ^ (j + 1) * u + V * (4294967296 ^ (j + 1) * Q) = M) (t : Nat) (ht : t = x + 4294967296 * u) :
    val lo + 4294967296 ^ j * (t % V) + V * (4294967296 ^ j * (t / V + 4294967296 * Q)) = M := by
  have e : val [x] = x := by simp [val]
  rw [val_append, hlo, e, pow_succ_mul, pow_succ_mul] at h
  obtain ⟨p, hp⟩ : ∃ p, p = 4294967296 ^ j := ⟨_, rfl⟩
  rw [← hp] at h ⊢
  have k := Nat.div_add_mod t V
  obtain ⟨a, ha⟩ : ∃ a, a = t / V := ⟨_, rfl⟩
  obtain ⟨b, hb⟩ : ∃ b, b = t % V := ⟨_, rfl⟩
  rw [← ha, ← hb] at k ⊢
  have k2 : p * (V * a) + p * b = p * x + p * (4294967296 * u) := by rw [← Nat.mul_add, ← Nat.mul_add, k, ht]
  rw [Nat.mul_add p a, Nat.mul_add V, show V * (p * a) = p * (V * a) by rw [← Nat.mul_assoc, Nat.mul_comm V p, Nat.mul_assoc]]
  omega
theorem div_last {l : List Nat} {n : Nat} (hl : l.length = n + 1) (hok : Wok l) (h : val l < 4294967296 ^ n) : ∃ o, l = o ++ [0] ∧ o.length = n ∧ Wok o ∧ val o = val l := by
  have e : l.drop n = [l[n]'(by omega)] := by
    rw [List.drop_eq_getElem_cons (by omega), List.drop_eq_nil_of_le (show l.length ≤ n + 1 by omega)]
  obtain ⟨z, hz⟩ : ∃ z, z = l[n]'(by omega) := ⟨_, rfl⟩
  rw [← hz] at e
  have e2 : l = l.take n ++ [z] := by rw [← e, List.take_append_drop]
  have hlen : (l.take n).length = n := by rw [List.length_take]; omega
  have a := val_append (l.take n) [z]
  rw [← e2, hlen] at a
  have ez : val [z] = z := by simp [val]
  rw [ez] at a
  have z0 : z = 0 := by
    rcases Nat.eq_zero_or_pos z with h0 | h0
    · exact h0
    · have := Nat.mul_le_mul_left (4294967296 ^ n) h0
      omega
  subst z0
  exact ⟨l.take n, e2, hlen, hok.take n, by omega⟩
theorem div_fin {mid q : List Nat} {m n s : Nat} (h : val mid + n * 2 ^ s * val q = m * 2 ^ s) (hlt : val mid < n * 2 ^ s) : val q = m / n ∧ val mid = m % n * 2 ^ s := by
  have hp : 0 < 2 ^ s := Nat.pow_pos (by decide)
  have hn : 0 < n * 2 ^ s := by omega
  have a : (val mid + n * 2 ^ s * val q) / (n * 2 ^ s) = val q := by rw [Nat.add_mul_div_left _ _ hn, Nat.div_eq_of_lt hlt, Nat.zero_add]
  have b : (val mid + n * 2 ^ s * val q) % (n * 2 ^ s) = val mid := by rw [Nat.add_mul_mod_self_left, Nat.mod_eq_of_lt hlt]
  rw [h, Nat.mul_div_mul_right m n hp] at a
  rw [h, Nat.mul_mod_mul_right] at b
  exact ⟨a.symm, b.symm⟩

theorem Wd.own {w : World} {v : Value} {l : List Nat} (h : Wd w v l) {g : Nat} (e : v.ownBlock = some g) : g < w.heap.size := by
  rcases h with ⟨rfl, -⟩ | ⟨k, off, cap, C, rfl, h2, -⟩
  · cases e
  · simp only [Value.ownBlock, Option.some.injEq] at e
    subst e
    exact lt_of_block h2
theorem Wd.set {w : World} {v : Value} {l : List Nat} (h : Wd w v l) {g : Nat} (hg : ∀ k, v.ownBlock = some k → k ≠ g) (i : Nat) (x : Value) : Wd (w.setCell ⟨g, i, none⟩ x) v l :=
  h.keep (B := w.heap.size) (S := [g]) ((Keeps.refl _ _ _).set (Or.inl (by simp)) _ _) (Nat.le_refl _) (fun k hk => by simpa using hg k hk)
theorem Ro.keepS {w w' : World} {g B : Nat} {S L : List Nat} (h : Ro w g L) (k : Keeps B S w w') (hB : g < B) (hS : g ∉ S) : Ro w' g L := (k.block g hB hS).trans h
theorem Ro.wdtake {w : World} {g cap : Nat} {L R : List Nat} (h : Ro w g (L ++ R)) (hc : L.length ≤ cap) : Wd w (.slice (some ⟨g, 0, none⟩) L.length cap) L :=
  .inr ⟨g, 0, cap, cellsU (L ++ R), rfl, h, hc, fun i x hx => by
    have hi : i < L.length := by
      rcases Nat.lt_or_ge i L.length with h1 | h1
      · exact h1
      · rw [List.getElem?_eq_none h1] at hx; cases hx
    rw [Nat.zero_add, cellsU_get, List.getElem?_append_left hi, hx]; rfl⟩
/-- Words are copied to the beginning of a row. -/
theorem copy_words {ops : Array Oper} {rest : List Oper} {o : Oper} {a : Act} {Q : Exit → Act → World → Prop} (w : World) (hgd : o.guard = none) (d s : Operand)
    (ho : o.op = .call { callee := .builtin .copy, args := #[d, s], argTypes := #[72, 72] }) (g n : Nat) (hd : a.eval d = .slice (some ⟨g, 0, none⟩) n n) (Z : List Nat) (hg : Ro w g Z) (hZ : Z.length = n)
    (v : Value) (hs : a.eval s = v) (L : List Nat) (hv : Wd w v L) (hL : L.length ≤ n)
    (h : ∀ w', Hid (Ro w' g (L ++ Z.drop L.length)) → Below g w w' → wpList Tryz.prog ops Q rest (a.put o.dst (goInt L.length)) w') :
    wpList Tryz.prog ops Q (o :: rest) a w := by
  obtain ⟨ad, cap, rfl, hcap, hce⟩ := hv.form
  have h2 := wpList_copy_splice (P := Tryz.prog) (ops := ops) (rest := rest) (Q := Q) (w := w) hgd d s 72 72 ho 129 Tryz.underlying72 info32s (some ⟨g, 0, none⟩) ad n n L.length cap hd hs g 0 (Z.map fun x : Nat => Value.int .u32 x) 129 hg (L.map fun x : Nat => Value.int .u32 x)
    (by rw [List.length_map]; exact (Nat.min_eq_left hL).symm)
    (fun hp => by
      rw [List.length_map] at hp
      obtain ⟨k, off, rfl, hk, hx⟩ := hce hp
      refine ⟨rfl, _, rfl, fun j u hu => ?_⟩
      rw [List.getElem?_map] at hu
      cases hlj : L[j]? with
      | none => rw [hlj] at hu; cases hu
      | some x =>
        rw [hlj] at hu
        obtain rfl := Option.some.inj hu
        rw [show (⟨k, off, none⟩ : Addr).add j = ⟨k, off + j, none⟩ by unfold Addr.add; split <;> simp_all]
        exact hx j x hlj)
    (by simp; omega)
    (fun u hu => by
      obtain ⟨t, -, rfl⟩ := List.mem_map.1 hu
      rfl)
    g w (Below.refl _ _) (Nat.le_refl _)
    (fun w' hro hbl => by
      have := h w' (hid (by
        have h5 := hro.out
        rw [show splice (Z.map fun x : Nat => Value.int .u32 x) 0 (L.map fun x : Nat => Value.int .u32 x) = (L ++ Z.drop L.length).map fun x : Nat => Value.int .u32 x by
          unfold splice
          simp [List.map_drop]] at h5
        exact h5)) hbl
      rw [List.length_map]
      exact this)
  exact h2
set_option maxRecDepth 100000 in
set_option maxHeartbeats 8000000 in
theorem bdivLess (va vb : Value) (m n : Nat) (w : World) (ha : Wd w va (words m)) (hb : Wd w vb (words n)) (hm : (words m).length ≤ 137438953472) (hn : (words n).length ≤ 137438953472) (hmn : m < n) :
    Calls Tryz.prog 132 #[va, vb] w fun e w' => ∃ q r, e = .returned (.tuple #[q, r]) ∧ Wd w' q (words (m / n)) ∧ Wd w' r (words (m % n)) ∧ Fresh w.heap.size q ∧ Fresh w.heap.size r ∧ Below w.heap.size w w' := by
  have CM := bcmp va vb m n w ha hb (by omega) (by omega)
  have CP := fun w' (h : Below w.heap.size w w') => bcopied va (words m) w' (ha.below h) (by omega)
  have hc : cmpN m n = -1 := by unfold cmpN; rw [if_pos hmn]
  rw [hc] at CM
  rw [Nat.div_eq_of_lt hmn, Nat.mod_eq_of_lt hmn, words_0]
  obtain ⟨a, ca, rfl, hca, -⟩ := ha.form
  obtain ⟨b, cb, rfl, hcb, -⟩ := hb.form
  clear ha hb
  generalize words m = l at *
  generalize words n = k at *
  have CPH := hid CP
  clear CP hc
  go_enter Tryz.func132, Tryz.ntmps132
  go_wp2_with (first | (go_at_call 119; refine CM.mono ?_; rintro e w' ⟨rfl, hdr⟩; obtain ⟨kd, rfl⟩ := hdr) | (go_at_call 92; refine (CPH.out _ ?_).mono ?_; exact ((Keeps.refl _ [] _).drewN _).below; rintro e w' ⟨g, rfl, hro, hg, hbl⟩))
  go_ret2
  exact ⟨_, _, rfl, Wd.nil _, hro.wd (Nat.le_refl _), Fresh.nil _, Fresh.own hg, Below.trans ((Keeps.refl _ [] _).drewN _).below hbl⟩
set_option maxRecDepth 100000 in
set_option maxHeartbeats 8000000 in
theorem bdivOne (va vb : Value) (m n : Nat) (w : World) (ha : Wd w va (words m)) (hb : Wd w vb (words n)) (hm : (words m).length ≤ 137438953472) (hmn : n ≤ m) (h1 : (words n).length = 1) :
    Calls Tryz.prog 132 #[va, vb] w fun e w' => ∃ q r, e = .returned (.tuple #[q, r]) ∧ Wd w' q (words (m / n)) ∧ Wd w' r (words (m % n)) ∧ Fresh w.heap.size q ∧ Fresh w.heap.size r ∧ Below w.heap.size w w' := by
  have CM := bcmp va vb m n w ha hb (by omega) (by omega)
  have hc : cmpN m n = 0 ∨ cmpN m n = 1 := by
    unfold cmpN
    rw [if_neg (by omega)]
    by_cases h : n < m
    · rw [if_pos h]; exact .inr rfl
    · rw [if_neg h]; exact .inl rfl
  have hn0 : 0 < n := by
    rcases Nat.eq_zero_or_pos n with h | h
    · rw [h, words_0] at h1; cases h1
    · exact h
  have hnB := words_lt n
  rw [h1, Nat.pow_one] at hnB
  have hw : words n = [n] := by
    rw [words_pos (by omega), Nat.mod_eq_of_lt hnB, Nat.div_eq_of_lt hnB, words_0]
  have DS := fun w' (h : Below w.heap.size w w') => bdivSmall va m n w' (ha.below h) (by omega) hn0 hnB
  have hr : m % n < 4294967296 := Nat.lt_trans (Nat.mod_lt _ hn0) hnB
  obtain ⟨cc, hcc⟩ : ∃ cc, cc = cmpN m n := ⟨_, rfl⟩
  rw [← hcc] at CM hc
  have hc2 : decide (cc < 0) = false := decide_eq_false (by omega)
  obtain ⟨a, ca, rfl, hca, -⟩ := ha.form
  obtain ⟨b, cb, rfl, hcb, hbx⟩ := hb.form
  obtain ⟨gb, ob, rfl, hgb, hxb⟩ := hbx (by omega)
  have c0 := hxb 0 n (by rw [hw]; rfl)
  rw [Nat.add_zero] at c0
  clear ha hb hxb hbx
  rw [h1] at hcb CM ⊢
  generalize m % n = r at *
  generalize m / n = q at *
  generalize words m = l at *
  have DSH := hid DS
  clear DS hcc hc h1 hw
  haveI : Has w gb := ⟨hgb⟩
  go_enter Tryz.func132, Tryz.ntmps132
  go_wp2_with (first | (go_at_call 119; refine CM.mono ?_; rintro e w' ⟨rfl, hdr⟩; obtain ⟨kd, rfl⟩ := hdr) | (go_at_call 142; refine (DSH.out _ ?_).mono ?_; exact ((Keeps.refl _ [] _).drewN _).below; rintro e w2 ⟨v, rfl, hq, hf, hbl⟩))
  have R1 : Hid (Ro (w2.alloc (.cells #[.int .u32 r] 129)) w2.heap.size [r]) := hid (by unfold Ro; simp only [block_at]; rfl)
  have QW : Hid (Wd (w2.alloc (.cells #[.int .u32 r] 129)) v (words q)) := hid (hq.below (Below.alloc (Below.refl _ _) (Nat.le_refl _) _))
  have BL : Hid (Below w.heap.size w (w2.alloc (.cells #[.int .u32 r] 129))) := hid (Below.alloc (Below.trans ((Keeps.refl _ [] _).drewN _).below hbl) hbl.size _)
  have SZ := hid hbl.size
  have ok : Hid (Wok [r]) := hid (Wok.cons hr Wok.nil)
  have hv : Hid (words (val [r]) = words r) := hid (by simp [val])
  clear hbl hq
  refine (btrim _ [r] _ (R1.out.wd (cap := 1) (Nat.le_refl _)) ok.out (by simp)).mono ?_
  rintro e w' ⟨v', rfl, hw', hb', rfl⟩
  rw [hv.out] at hw'
  have HW := hid hw'
  clear hw'
  go_wp2_with fail
  go_ret2
  exact ⟨_, _, rfl, QW.out, HW.out, hf, (Fresh.own SZ.out).of hb', BL.out⟩
end Big
end
section
open Go.RowKit
namespace Big
theorem split_last {l : List Nat} {j : Nat} (h : l.length = j + 1) : ∃ a z, l = a ++ [z] ∧ a.length = j := by
  have hne : l ≠ [] := fun e => by rw [e] at h; simp at h
  exact ⟨l.dropLast, l.getLast hne, (List.dropLast_concat_getLast hne).symm, by rw [List.length_dropLast]; omega⟩
set_option maxRecDepth 100000 in
set_option maxHeartbeats 16000000 in
theorem bdivCore (a : Option Addr) (ca gb ob cb la lb lq s V M QQ RR n1 n2 x y y0 : Nat) (cc : Int) (lM : List Nat) (w : World)
    (CM : Calls Tryz.prog 119 #[.slice a la ca, .slice (some ⟨gb, ob, none⟩) lb cb] w fun e w' => e = .returned (.int .i64 cc) ∧ Drawn w w') (hc2 : decide (cc < 0) = false)
    (LD : ∀ w, Calls Tryz.prog 143 #[.int .u32 x] w fun e w' => e = .returned (.int .i64 s) ∧ w' = w)
    (UP1 : Hid (∀ w2, Below w.heap.size w w2 → Calls Tryz.prog 84 #[.slice (some ⟨gb, ob, none⟩) lb cb, .int .i64 s] w2 fun e w' => ∃ gv ov cv, e = .returned (.slice (some ⟨gv, ov, none⟩) lb cv) ∧ Wd w' (.slice (some ⟨gv, ov, none⟩) lb cv) (words V) ∧ w2.heap.size ≤ gv ∧ gv < w'.heap.size ∧ Below w2.heap.size w2 w'))
    (UP2 : Hid (∀ w2, Below w.heap.size w w2 → Calls Tryz.prog 84 #[.slice a la ca, .int .i64 s] w2 fun e w' => ∃ v, e = .returned v ∧ Wd w' v lM ∧ Fresh w2.heap.size v ∧ Below w2.heap.size w2 w'))
    (hgb : gb < w.heap.size) (c1 : w.cell? ⟨gb, ob + n1, none⟩ = some (.int .u32 x)) (hs32 : s < 32)
    (DF : Hid (∀ mid q : List Nat, val mid + V * val q = M → val mid < V → val q = QQ ∧ val mid = RR * 2 ^ s)) (MS : Hid (RR * 2 ^ s / 2 ^ s = RR)) (hRV : Hid ((words (RR * 2 ^ s)).length ≤ 274877906944))
    (START : Hid (∀ l, Wok l → l.length = la + 1 → val l = M → val (l.drop lq) < V)) (VL : Hid ((words V).length = lb)) (HLM : Hid (lM.length ≤ la + 1)) (OKM : Hid (Wok lM)) (VM : Hid (val lM = M))
    (HY : Hid ((words V)[n1]? = some y)) (HY0 : Hid ((words V)[n2]? = some y0)) (hyt : 2147483648 ≤ y) (HN1 : Hid (n1 + 1 = lb)) (HN2 : Hid (n2 + 2 = lb)) (HLQ : Hid (lq + lb = la + 1)) (hlqp : 0 < lq) (hlab : la ≤ 137438953472) :
    Calls Tryz.prog 132 #[.slice a la ca, .slice (some ⟨gb, ob, none⟩) lb cb] w fun e w' => ∃ q r, e = .returned (.tuple #[q, r]) ∧ Wd w' q (words QQ) ∧ Wd w' r (words RR) ∧ Fresh w.heap.size q ∧ Fresh w.heap.size r ∧ Below w.heap.size w w' := by
  haveI : Has w gb := ⟨hgb⟩
  have hn1 := HN1.out
  have hn2 := HN2.out
  have hlq := HLQ.out
  have i1 : (lb : Int) - 1 = (n1 : Int) := by omega
  have i2 : (0 : Int) ≤ (n1 : Int) := by omega
  have i3 : (n1 : Int) < (lb : Int) := by omega
  have i4 : ((lb : Int) == 1) = false := beq_eq_false_iff_ne.2 (by omega)
  have i5 : (la : Int) - (lb : Int) + 1 = (lq : Int) := by omega
  have i6 : (la : Int) - (lb : Int) = (lq : Int) - 1 := by omega
  have hlqB : lq ≤ 137438953473 := by omega
  have hlbB : lb ≤ 137438953473 := by omega
  clear hn1 hn2 hlq
  go_enter Tryz.func132, Tryz.ntmps132
  go_upto_region 8 with (first | (go_at_call 119; refine CM.mono ?_; rintro e w' ⟨rfl, hdr⟩; obtain ⟨kd, rfl⟩ := hdr) | (go_at_call 143; refine (LD _).mono ?_; rintro e w' ⟨rfl, hw⟩; obtain rfl := hw.symm) | (go_at_call 84; refine (UP1.out _ ?_).mono ?_; exact ((Keeps.refl _ [] _).drewN _).below; rintro e w1 ⟨gv, ov, cv, rfl, hWV, hgvB, hgv, hb1⟩))
  have B1 := Below.trans ((Keeps.refl w.heap.size [] w).drewN kd).below hb1
  have hgvB2 : w.heap.size ≤ gv := hgvB
  have WV := hid hWV
  have BB1 := hid B1
  clear hgvB hb1 hWV B1 hc2 i1 i2 i3 i4 c1 CM LD UP1
  go_upto_region 9 with (at_make; refine make_words _ rfl _ _ rfl _ (la + 1) rfl rfl (by first | rfl | omega | simp) (by omega) ?_; intro w2 hro2 hb2 hlt2)
  have B2 := Below.trans BB1.out (below_low hb2 (BB1.out.size))
  go_upto_region 10 with (first | (go_at_call 84; refine (UP2.out _ ?_).mono ?_; exact B2; rintro e w3 ⟨v3, rfl, hW3, hf3, hb3⟩) | (refine copy_words _ (by rfl) _ _ (by rfl) w1.heap.size (la + 1) (by rfl) (List.replicate (la + 1) 0) (hro2.out.keep hb3) (by simp) v3 (by rfl) lM hW3 HLM.out ?_; intro w4 hro4 hb4))
  go_wp2_with (at_make; refine make_words _ rfl _ _ rfl _ lq rfl rfl (by first | rfl | omega | simp) (by omega) ?_; intro w5 hro5 hb5 hlt5)
  have s12 := hb2.size
  have s23 := hb3.size
  have s34 := hb4.size
  have b14 : Below w1.heap.size w1 w4 := Below.trans (Below.trans hb2 (below_low hb3 s12)) hb4
  have b15 : Below w1.heap.size w1 w5 := Below.trans b14 (below_low hb5 b14.size)
  have B5 : Hid (Below w.heap.size w w5) := hid (Below.trans BB1.out (below_low b15 BB1.out.size))
  have WV5 : Hid (Wd w5 (.slice (some ⟨gv, ov, none⟩) lb cv) (words V)) := hid (WV.out.below b15)
  have RU5 := hro4.out.keep hb5
  have hgq : w1.heap.size < w4.heap.size := by omega
  obtain ⟨L0, hL0⟩ : ∃ L0, L0 = lM ++ (List.replicate (la + 1) 0).drop lM.length := ⟨_, rfl⟩
  rw [← hL0] at RU5
  have hlL : L0.length = la + 1 := by rw [hL0]; have := HLM.out; simp; omega
  have okL : Wok L0 := by rw [hL0]; exact OKM.out.append ((Wok.rep _).drop _)
  have vL : val L0 = M := by rw [hL0, val_append, List.drop_replicate, val_rep, Nat.mul_zero, Nat.add_zero]; exact VM.out
  have hst := START.out L0 okL hlL vL
  obtain ⟨lo0, hlo0⟩ : ∃ lo0, lo0 = L0.take lq := ⟨_, rfl⟩
  obtain ⟨mid0, hmid0⟩ : ∃ mid0, mid0 = L0.drop lq := ⟨_, rfl⟩
  have hLs : L0 = lo0 ++ mid0 := by rw [hlo0, hmid0, List.take_append_drop]
  have hlol : lo0.length = lq := by rw [hlo0, List.length_take]; have := HLQ.out; omega
  have hmidl : mid0.length = lb := by rw [hmid0, List.length_drop]; have := HLQ.out; omega
  rw [← hmid0] at hst
  have RU : Hid (Ro w5 w1.heap.size (lo0 ++ (mid0 ++ List.replicate (la + 1 - lb - lq) 0))) := hid (by
    rw [hLs] at RU5
    rw [show la + 1 - lb - lq = 0 by have := HLQ.out; omega, List.replicate_zero, List.append_nil]
    exact RU5)
  have RQ : Hid (Ro w5 w4.heap.size (List.replicate lq 0 ++ [])) := hid (by rw [List.append_nil]; exact hro5.out)
  have EQ0 : Hid (val lo0 + 4294967296 ^ lq * val mid0 + V * (4294967296 ^ lq * val []) = M) := hid (by
    rw [← vL, hLs, val_append, hlol]
    simp [val])
  have OKlo : Hid (Wok lo0) := hid (by rw [hlo0]; exact okL.take _)
  have OKmid : Hid (Wok mid0) := hid (by rw [hmid0]; exact okL.drop _)
  have LTm := hid hst
  have LOL := hid hlol
  have MIDL := hid hmidl
  have hgvu : gv < w1.heap.size := hgv
  have hwu : w.heap.size ≤ w1.heap.size := BB1.out.size
  clear hL0 hlL okL vL hst hlo0 hmid0 hLs hlol hmidl RU5 hro2 hro4 hro5 b14 b15 hb2 hb3 hb4 hb5 hW3 hf3 hlt2 hlt5 s12 s23 s34 B2 BB1 WV hgv
  generalize w1.heap.size = gu at *
  generalize w4.heap.size = gq at *
  go_loopw [13] (fun s13 wr => ∃ (jj : Nat) (lo mid qs : List Nat), s13 = .int .i64 ((jj : Int) - 1) ∧ jj ≤ lq ∧ Hid (lo.length = jj) ∧ Hid (mid.length = lb) ∧ Hid (qs.length + jj = lq) ∧ Hid (Wok lo) ∧ Hid (Wok mid) ∧ Hid (Wok qs) ∧ Hid (val mid < V) ∧ Hid (Ro wr gu (lo ++ (mid ++ List.replicate (la + 1 - lb - jj) 0))) ∧ Hid (Ro wr gq (List.replicate jj 0 ++ qs)) ∧ Hid (val lo + 4294967296 ^ jj * val mid + V * (4294967296 ^ jj * val qs) = M) ∧ Hid (Wd wr (.slice (some ⟨gv, ov, none⟩) lb cv) (words V)) ∧ Hid (Below w.heap.size w wr)) (fun s13 _ => (intOf s13 + 1).toNat)
  case atStart => exact ⟨lq, lo0, mid0, [], by first | rfl | (rw [i6]) | simp, Nat.le_refl _, LOL, MIDL, hid (by simp), OKlo, OKmid, hid Wok.nil, LTm, RU, RQ, EQ0, WV5, B5⟩
  case round =>
    obtain ⟨jj, lo, mid, qs, rfl, hjj, hlol, hmidl, hqsl, hlok, hmok, hqok, hmlt, hRU, hRQ, hEQ, hWV, hB⟩ := hrel
    haveI : Has wr gu := ⟨hRU.out.lt⟩
    haveI : Has wr gq := ⟨hRQ.out.lt⟩
    clear LOL MIDL OKlo OKmid LTm RU RQ EQ0 WV5 B5
    rcases Nat.eq_zero_or_pos jj with rfl | hjp
    · have hlo0 : lo = [] := List.length_eq_zero_iff.1 hlol.out
      subst hlo0
      have hR2 := hRU.out
      have hE2 := hEQ.out
      rw [List.nil_append] at hR2
      rw [val, Nat.pow_zero, Nat.one_mul, Nat.one_mul, Nat.zero_add] at hE2
      obtain ⟨f1, f2⟩ := DF.out mid qs hE2 hmlt.out
      have hQ2 := hRQ.out
      rw [List.replicate_zero, List.nil_append] at hQ2
      have hql : qs.length = lq := hqsl.out
      have WQ : Hid (Wd wr (.slice (some ⟨gq, 0, none⟩) lq lq) qs) := hid (by have := hQ2.wd (cap := lq) (by omega); rw [hql] at this; exact this)
      have WU : Hid (Wd wr (.slice (some ⟨gu, 0, none⟩) lb (la + 1)) mid) := hid (by have := hR2.wdtake (cap := la + 1) (by have := hmidl.out; have := HLQ.out; omega); rw [hmidl.out] at this; exact this)
      have F1 := hid f1
      have F2 := hid f2
      have QL := hid hql
      have jb : (lb : Int) ≤ (la : Int) + 1 := by have := HLQ.out; omega
      clear hR2 hE2 hQ2 hql f1 f2
      have TQ : Hid (∀ w', Below wr.heap.size wr w' → Calls Tryz.prog 110 #[.slice (some ⟨gq, 0, none⟩) lq lq] w' fun e w'' => ∃ v', e = .returned v' ∧ Wd w' v' (words QQ) ∧ Fresh w.heap.size v' ∧ w'' = w') := hid fun w' h => (btrim _ qs w' (WQ.out.below h) hqok.out (by have := QL.out; omega)).mono (by
        rintro e w'' ⟨v', rfl, h1, h2, rfl⟩
        rw [F1.out] at h1
        exact ⟨v', rfl, h1, (Fresh.own (by omega)).of h2, rfl⟩)
      have TU : Hid (∀ w', Below wr.heap.size wr w' → Calls Tryz.prog 110 #[.slice (some ⟨gu, 0, none⟩) lb (la + 1)] w' fun e w'' => ∃ v', e = .returned v' ∧ Wd w' v' (words (RR * 2 ^ s)) ∧ Fresh w.heap.size v' ∧ w'' = w') := hid fun w' h => (btrim _ mid w' (WU.out.below h) hmok.out (by have := hmidl.out; omega)).mono (by
        rintro e w'' ⟨v', rfl, h1, h2, rfl⟩
        rw [F2.out] at h1
        exact ⟨v', rfl, h1, (Fresh.own (by omega)).of h2, rfl⟩)
      have DN : Hid (∀ v w', Below wr.heap.size wr w' → Wd w' v (words (RR * 2 ^ s)) → Calls Tryz.prog 145 #[v, .int .i64 s] w' fun e w'' => ∃ v', e = .returned v' ∧ Wd w'' v' (words RR) ∧ Fresh w.heap.size v' ∧ Below w'.heap.size w' w'' ∧ Below wr.heap.size wr w'') := hid fun v w' h hw => (bdown v (RR * 2 ^ s) s w' hw hRV.out (by omega)).mono (by
        rintro e w'' ⟨v', rfl, h1, h2, h3⟩
        rw [MS.out] at h1
        have z1 := hB.out.size
        have z2 := h.size
        exact ⟨v', rfl, h1, fun g hg => Nat.le_trans (Nat.le_trans z1 z2) (h2 g hg), h3, Below.trans h (below_low h3 z2)⟩)
      clear WQ WU F1 F2 QL
      go_wp2_with fail
      go_region_with (first | (go_at_call 110; (with_reducible refine (TQ.out _ ?_).mono ?_); (focus (first | assumption | exact Below.refl _ _ | exact Below.drew (Below.refl _ _))); rintro e wq ⟨vq, rfl, hwq, hfq, hww⟩; subst hww) | (go_at_call 110; (with_reducible refine (TU.out _ ?_).mono ?_); (focus (first | assumption | exact Below.refl _ _ | exact Below.drew (Below.refl _ _))); rintro e wq ⟨vu, rfl, hwu2, hfu, hww⟩; subst hww) | (go_at_call 145; (with_reducible refine (DN.out _ _ ?_ ?_).mono ?_); (focus (first | assumption | exact Below.refl _ _ | exact Below.drew (Below.refl _ _))); (focus assumption); rintro e wd ⟨vd, rfl, hwd, hfd, hbd, hbr⟩))
      all_goals
        go_wp2_with fail
        go_ret2
        exact ⟨_, _, rfl, by first | exact hwq | exact hwq.below hbd, hwd, hfq, hfd, Below.trans hB.out (below_low hbr hB.out.size)⟩
    · obtain ⟨j, rfl⟩ : ∃ j, jj = j + 1 := ⟨jj - 1, by omega⟩
      obtain ⟨lo1, z, hloz, hlo1⟩ := split_last hlol.out
      have hzB : z < 4294967296 := hlok.out z (by rw [hloz]; simp)
      have hlk1 : Wok lo1 := fun t ht => hlok.out t (by rw [hloz]; simp [ht])
      have hml := hmidl.out
      have hn1 := HN1.out
      have hn2 := HN2.out
      have hlq := HLQ.out
      have hU : (z :: mid).length = lb + 1 := by rw [List.length_cons, hml]
      obtain ⟨un, xun⟩ : ∃ un, (z :: mid)[lb]? = some un := ⟨_, List.getElem?_eq_getElem (by omega)⟩
      obtain ⟨u1, xu1⟩ : ∃ u1, (z :: mid)[n1]? = some u1 := ⟨_, List.getElem?_eq_getElem (by omega)⟩
      obtain ⟨u0, xu0⟩ : ∃ u0, (z :: mid)[n2]? = some u0 := ⟨_, List.getElem?_eq_getElem (by omega)⟩
      have hUlt : val (z :: mid) < V * 4294967296 := by
        rw [val]
        have := hmlt.out
        omega
      have hR2 : Ro wr gu (lo1 ++ ((z :: mid) ++ List.replicate (la + 1 - lb - (j + 1)) 0)) := by
        have := hRU.out
        rw [hloz] at this
        simpa using this
      have hvlt : V < 4294967296 ^ lb := by have := words_lt V; rwa [VL.out] at this
      have hE2 := hEQ.out
      rw [hloz] at hE2
      have fg := bfigure gu j lb n1 n2 (la + 1 - j) lo1 (z :: mid) _ _ V un u1 u0 y y0 wr hR2 hlo1 hU (Wok.cons hzB hmok.out) hWV.out VL.out hn1 hn2 (by omega) (by omega) (fun k hk => by simp only [Value.ownBlock, Option.some.injEq] at hk; omega) hUlt xun xu1 xu0 HY.out HY0.out hyt (by omega)
      have FIG : Hid (Calls Tryz.prog 144 #[.slice (some ⟨gu, j, none⟩) (j + lb + 1 - j) (la + 1 - j), .slice (some ⟨gv, ov, none⟩) lb cv] wr fun e w' => ∃ (qd : Nat) (mid2 : List Nat), e = .returned (.int .u32 (qd : Int)) ∧ qd < 4294967296 ∧ mid2.length = lb ∧ Wok mid2 ∧ val mid2 < V ∧ val lo1 + 4294967296 ^ j * val mid2 + V * (4294967296 ^ j * val (qd :: qs)) = M ∧ Ro w' gu (lo1 ++ (mid2 ++ List.replicate (la + 1 - lb - j) 0)) ∧ Keeps wr.heap.size [gu] wr w') := hid (by
       rw [show j + lb + 1 - j = lb + 1 by omega]
       exact (fg.mono (by
        rintro e w' ⟨U', rfl, g1, g2, g3, g4, g5⟩
        have hVp : 0 < V := by have := hmlt.out; omega
        obtain ⟨mid2, m1, m2, m3, m4⟩ := div_last g1 g2 (by rw [g3]; exact Nat.lt_trans (Nat.mod_lt _ hVp) hvlt)
        refine ⟨_, mid2, rfl, ?_, m2, m3, by rw [m4, g3]; exact Nat.mod_lt _ hVp, ?_, ?_, g5⟩
        · rw [Nat.div_lt_iff_lt_mul hVp, Nat.mul_comm]; exact hUlt
        · rw [m4, g3]
          exact div_step hlo1 hE2 _ rfl
        · rw [m1, List.append_assoc] at g4
          rw [show la + 1 - lb - j = (la + 1 - lb - (j + 1)) + 1 by omega, List.replicate_succ]
          exact g4)))
      have ql : qs.length + (j + 1) = lq := hqsl.out
      have e0 : ((j + 1 : Nat) : Int) - 1 = (j : Int) := by omega
      have j1 : (j : Int) < (lq : Int) := by omega
      have j2 : (j : Int) + (lb : Int) + 1 ≤ (la : Int) + 1 := by omega
      have j3 : (0 : Int) ≤ (j : Int) := by omega
      have QN := hid ql
      clear fg hE2 hR2 hUlt xun xu1 xu0 hU hn1 hn2 hlq hml hloz ql hjp hvlt hzB
      go_wp2_with (go_at_call 144; refine FIG.out.mono ?_; rintro e w' ⟨qd, mid2, rfl, hqd, hm2, hmk2, hml2, heq2, hru2, hk2⟩; have RQ2 : Ro w' gq (List.replicate (j + 1) 0 ++ qs) := hRQ.out.keepS hk2 hRQ.out.lt (by simp; omega); have co := RQ2.cell (get_low j qs); have fo := RQ2.free j; haveI : Has w' gq := ⟨RQ2.lt⟩)
      have hRN := RQ2.set j qd
      rw [set_low] at hRN
      have RN : Hid (Ro (w'.setCell ⟨gq, j, none⟩ (.int .u32 (qd : Int))) gq (List.replicate j 0 ++ (qd :: qs))) := hid hRN
      have UN : Hid (Ro (w'.setCell ⟨gq, j, none⟩ (.int .u32 (qd : Int))) gu (lo1 ++ (mid2 ++ List.replicate (la + 1 - lb - j) 0))) := hid (hru2.keepS ((Keeps.refl w'.heap.size [gq] w').set (Or.inl (by simp)) j (.int .u32 (qd : Int))) hru2.lt (by simp; omega))
      have WN : Hid (Wd (w'.setCell ⟨gq, j, none⟩ (.int .u32 (qd : Int))) (.slice (some ⟨gv, ov, none⟩) lb cv) (words V)) := hid ((hWV.out.keep hk2 (Nat.le_refl _) (fun k hk => by simp only [Value.ownBlock, Option.some.injEq] at hk; simp; omega)).set (fun k hk => by simp only [Value.ownBlock, Option.some.injEq] at hk; omega) _ _)
      have BN : Hid (Below w.heap.size w (w'.setCell ⟨gq, j, none⟩ (.int .u32 (qd : Int)))) := hid (by
        have k1 : Keeps w.heap.size [] w w' := (Keeps.of_below hB.out).trans (hk2.mono (hB.out.size) (fun k hk hs => by simp at hs; omega))
        exact (k1.set (Or.inr (by omega)) _ _).below)
      go_roundw
      case rel => exact ⟨j, lo1, mid2, qd :: qs, by first | rfl | simp, by omega, hid hlo1, hid hm2, hid (by rw [List.length_cons]; have := QN.out; omega), hid hlk1, hid hmk2, hid (Wok.cons hqd hqok.out), hid hml2, UN, RN, hid heq2, WN, BN⟩
      case measure => simp [intOf]
theorem bdivMany (va vb : Value) (m n : Nat) (w : World) (ha : Wd w va (words m)) (hb : Wd w vb (words n)) (hm : (words m).length ≤ 137438953472) (hmn : n ≤ m) (h2 : 2 ≤ (words n).length) :
    Calls Tryz.prog 132 #[va, vb] w fun e w' => ∃ q r, e = .returned (.tuple #[q, r]) ∧ Wd w' q (words (m / n)) ∧ Wd w' r (words (m % n)) ∧ Fresh w.heap.size q ∧ Fresh w.heap.size r ∧ Below w.heap.size w w' := by
  have CM := bcmp va vb m n w ha hb (by omega) (by have := len_mono hmn; omega)
  obtain ⟨cc, hcc⟩ : ∃ cc, cc = cmpN m n := ⟨_, rfl⟩
  rw [← hcc] at CM
  have hc2 : decide (cc < 0) = false := decide_eq_false (by rw [hcc]; unfold cmpN; rw [if_neg (by omega)]; by_cases h : n < m <;> simp [h])
  have hle := len_mono hmn
  have hn0 : n ≠ 0 := fun e => by rw [e, words_0] at h2; simp at h2
  obtain ⟨n2, hn2⟩ : ∃ n2, n2 + 2 = (words n).length := ⟨(words n).length - 2, by omega⟩
  obtain ⟨n1, hn1⟩ : ∃ n1, n1 + 1 = (words n).length := ⟨(words n).length - 1, by omega⟩
  obtain ⟨x, hx⟩ : ∃ x, (words n)[n1]? = some x := ⟨_, List.getElem?_eq_getElem (by omega)⟩
  have hxB := (words_ok n).get hx
  have hxl : (words n)[(words n).length - 1]? = some x := by rw [show (words n).length - 1 = n1 by omega]; exact hx
  obtain ⟨s, hs⟩ : ∃ s, s = 32 - bl x := ⟨_, rfl⟩
  have hs32 : s < 32 := by
    have hx0 := words_last hxl
    have : bl x ≠ 0 := by unfold bl; rw [if_neg hx0]; omega
    omega
  have LD := fun w => lead32 x hxB w
  rw [← hs] at LD
  obtain ⟨hVl, y, hy, hyt⟩ := top_shift hn0 hxl hs
  have hp : 0 < 2 ^ s := Nat.pow_pos (by decide)
  have hp32 : (2 : Nat) ^ s < 4294967296 := by
    have : (2 : Nat) ^ s < 2 ^ 32 := Nat.pow_lt_pow_right (by decide) hs32
    simpa using this
  have hMl : (words (m * 2 ^ s)).length ≤ (words m).length + 1 := by
    refine words_len_le ?_
    rw [Nat.pow_succ]
    exact Nat.mul_lt_mul'' (words_lt m) hp32
  have UP1 : Hid (∀ w2, Below w.heap.size w w2 → Calls Tryz.prog 84 #[vb, .int .i64 s] w2 fun e w' => ∃ gv ov cv, e = .returned (.slice (some ⟨gv, ov, none⟩) (words n).length cv) ∧ Wd w' (.slice (some ⟨gv, ov, none⟩) (words n).length cv) (words (n * 2 ^ s)) ∧ w2.heap.size ≤ gv ∧ gv < w'.heap.size ∧ Below w2.heap.size w2 w') := hid fun w2 h => ((bup vb n s w2 (hb.below h) (by omega) (by omega))).mono (by
    rintro e w' ⟨v, rfl, hw, hf, hbl⟩
    obtain ⟨a, cv, rfl, -, hx⟩ := hw.form
    obtain ⟨gv, ov, rfl, hg, -⟩ := hx (by omega)
    rw [hVl] at hw ⊢
    exact ⟨gv, ov, cv, rfl, hw, hf gv rfl, hg, hbl⟩)
  have UP2 : Hid (∀ w2, Below w.heap.size w w2 → Calls Tryz.prog 84 #[va, .int .i64 s] w2 fun e w' => ∃ v, e = .returned v ∧ Wd w' v (words (m * 2 ^ s)) ∧ Fresh w2.heap.size v ∧ Below w2.heap.size w2 w') := hid fun w2 h => bup va m s w2 (ha.below h) (by omega) (by omega)
  obtain ⟨y0, hy0⟩ : ∃ y0, (words (n * 2 ^ s))[n2]? = some y0 := ⟨_, List.getElem?_eq_getElem (by omega)⟩
  have hRV : (words (m % n * 2 ^ s)).length ≤ 274877906944 := by
    have : m % n * 2 ^ s ≤ m * 2 ^ s := Nat.mul_le_mul_right _ (Nat.mod_le m n)
    have := len_mono this
    omega
  obtain ⟨a, ca, rfl, hca, -⟩ := ha.form
  obtain ⟨b, cb, rfl, hcb, hbx⟩ := hb.form
  obtain ⟨gb, ob, rfl, hgb, hxb⟩ := hbx (by omega)
  exact bdivCore a ca gb ob cb (words m).length (words n).length ((words m).length - (words n).length + 1) s (n * 2 ^ s) (m * 2 ^ s) (m / n) (m % n) n1 n2 x y y0 cc (words (m * 2 ^ s)) w CM hc2 LD UP1 UP2 hgb (hxb n1 x hx) hs32
    (hid fun mid q => div_fin) (hid (Nat.mul_div_cancel _ hp)) (hid hRV)
    (hid fun l h1 h3 h4 => div_start h1 h3 h4 (words_lt m) (words_top hn0) (by omega) hle rfl)
    (hid hVl) (hid hMl) (hid (words_ok _)) (hid (val_words _)) (hid (by rw [show n1 = (words n).length - 1 by omega]; exact hy)) (hid hy0) hyt (hid hn1) (hid hn2) (hid (by omega)) (by omega) hm
/-- Words by words, and what is left. -/
theorem bdiv (va vb : Value) (m n : Nat) (w : World) (ha : Wd w va (words m)) (hb : Wd w vb (words n)) (hm : (words m).length ≤ 137438953472) (hn : (words n).length ≤ 137438953472) (h0 : n ≠ 0) :
    Calls Tryz.prog 132 #[va, vb] w fun e w' => ∃ q r, e = .returned (.tuple #[q, r]) ∧ Wd w' q (words (m / n)) ∧ Wd w' r (words (m % n)) ∧ Fresh w.heap.size q ∧ Fresh w.heap.size r ∧ Below w.heap.size w w' := by
  rcases Nat.lt_or_ge m n with h | h
  · exact bdivLess va vb m n w ha hb hm hn h
  · have hl : (words n).length ≠ 0 := fun e => h0 (words_len0.1 e)
    rcases Nat.lt_or_ge (words n).length 2 with h1 | h1
    · exact bdivOne va vb m n w ha hb hm h (by omega)
    · exact bdivMany va vb m n w ha hb hm h h1
end Big
end
section
open Go.RowKit
namespace Big
theorem drop_val (m k : Nat) : val ((words m).drop k) = m / 4294967296 ^ k := by
  rcases Nat.lt_or_ge (words m).length k with h | h
  · rw [List.drop_eq_nil_of_le (by omega)]
    have h1 := words_lt m
    have h2 : 4294967296 ^ (words m).length ≤ 4294967296 ^ k := Nat.pow_le_pow_right (by decide) (by omega)
    rw [Nat.div_eq_of_lt (by omega)]
    rfl
  · rw [val_drop_div (words_ok m) h, val_words]
theorem val_drop0 (l : List Nat) (k : Nat) : val (l.drop k) = (l[k]?).getD 0 + 4294967296 * val (l.drop (k + 1)) := by
  cases h : l[k]? with
  | some x => rw [val_drop h]; rfl
  | none =>
    have : l.length ≤ k := by
      rcases Nat.lt_or_ge k l.length with h1 | h1
      · rw [List.getElem?_eq_getElem h1] at h; cases h
      · exact h1
    rw [List.drop_eq_nil_of_le this, List.drop_eq_nil_of_le (show l.length ≤ k + 1 by omega)]
    rfl
/-- Some bits of words. -/
theorem top_bits {m k s w0 w1 w2 : Nat} (hs : s < 32) (h0 : w0 = ((words m)[k]?).getD 0) (h1 : w1 = ((words m)[k + 1]?).getD 0) (h2 : w2 = ((words m)[k + 2]?).getD 0) :
    w2 * 2 ^ (64 - s) % 18446744073709551616 ||| w1 * 2 ^ (32 - s) ||| w0 / 2 ^ s = m / 2 ^ (32 * k + s) % 18446744073709551616 := by
  have hw : ∀ j : Nat, ((words m)[j]?).getD 0 < 4294967296 := fun j => by
    cases h : (words m)[j]? with
    | none => decide
    | some x => exact (words_ok m).get h
  have hw0 := hw k
  have hw1 := hw (k + 1)
  have hw2 := hw (k + 2)
  rw [← h0] at hw0
  rw [← h1] at hw1
  rw [← h2] at hw2
  have hD := val_drop0 (words m) k
  rw [val_drop0 (words m) (k + 1), val_drop0 (words m) (k + 1 + 1), drop_val, ← h0, ← h1, show k + 1 + 1 = k + 2 by omega, ← h2] at hD
  generalize val ((words m).drop (k + 2 + 1)) = R at hD
  have hp : 0 < 2 ^ s := Nat.pow_pos (by decide)
  obtain ⟨P, hP⟩ : ∃ P, P = 2 ^ s := ⟨_, rfl⟩
  obtain ⟨Q, hQ⟩ : ∃ Q, Q = 2 ^ (32 - s) := ⟨_, rfl⟩
  have hPQ : P * Q = 4294967296 := by rw [hP, hQ, ← Nat.pow_add, show s + (32 - s) = 32 by omega]
  have h64 : 2 ^ (64 - s) = Q * 4294967296 := by rw [hQ, show (4294967296 : Nat) = 2 ^ 32 by decide, ← Nat.pow_add, show 32 - s + 32 = 64 - s by omega]
  rw [Nat.pow_add, Nat.pow_mul, show (2 : Nat) ^ 32 = 4294967296 by decide, ← Nat.div_div_eq_div_mul, hD, ← hP]
  rw [← hP] at hp
  have hA : w2 * 2 ^ (64 - s) % 18446744073709551616 = 2 ^ (64 - s) * (w2 % P) := by
    rw [h64, show (18446744073709551616 : Nat) = P * (Q * 4294967296) by rw [← Nat.mul_assoc, hPQ], Nat.mul_mod_mul_right, Nat.mul_comm]
  have hb1 : w1 * 2 ^ (32 - s) < 2 ^ (64 - s) := by
    rw [h64, ← hQ, Nat.mul_comm Q]
    exact Nat.mul_lt_mul_of_pos_right hw1 (by rw [hQ]; exact Nat.pow_pos (by decide))
  have hb0 : w0 / P < 2 ^ (32 - s) := by
    rw [← hQ, Nat.div_lt_iff_lt_mul hp, Nat.mul_comm, hPQ]; exact hw0
  rw [hA, ← Nat.two_pow_add_eq_or_of_lt hb1]
  have e1 : 2 ^ (64 - s) * (w2 % P) + w1 * 2 ^ (32 - s) = 2 ^ (32 - s) * (4294967296 * (w2 % P) + w1) := by
    rw [h64, ← hQ]; grind
  rw [e1, ← Nat.two_pow_add_eq_or_of_lt hb0, ← hQ]
  have e2 : (w0 + 4294967296 * (w1 + 4294967296 * (w2 + 4294967296 * R))) / P = w0 / P + Q * (w1 + 4294967296 * (w2 + 4294967296 * R)) := by
    rw [← Nat.add_mul_div_left w0 _ hp]
    congr 1
    rw [← Nat.mul_assoc, hPQ]
  rw [e2]
  have e3 := Nat.div_add_mod w2 P
  obtain ⟨a, ha⟩ : ∃ a, a = w2 / P := ⟨_, rfl⟩
  obtain ⟨b, hb⟩ : ∃ b, b = w2 % P := ⟨_, rfl⟩
  have hbP : b < P := by rw [hb]; exact Nat.mod_lt _ hp
  rw [← ha, ← hb] at e3
  rw [← hb]
  rw [← hQ] at hb0
  have e4 : w0 / P + Q * (w1 + 4294967296 * (w2 + 4294967296 * R)) = (Q * (4294967296 * b + w1) + w0 / P) + 18446744073709551616 * (a + Q * R) := by
    generalize w0 / P = z at *
    rw [← e3, show (18446744073709551616 : Nat) = P * Q * 4294967296 by rw [hPQ]]
    rw [show Q * (w1 + 4294967296 * (P * a + b + 4294967296 * R)) = Q * (4294967296 * b + w1) + P * Q * 4294967296 * a + 4294967296 * 4294967296 * (Q * R) by grind]
    rw [show P * Q * 4294967296 * (a + Q * R) = P * Q * 4294967296 * a + (P * Q) * 4294967296 * (Q * R) by grind, hPQ]
    omega
  rw [e4, Nat.add_mul_mod_self_left]
  refine (Nat.mod_eq_of_lt ?_).symm
  have e5 : Q * (4294967296 * b + w1) + Q ≤ Q * (4294967296 * P) := by
    rw [← Nat.mul_succ]
    refine Nat.mul_le_mul_left _ ?_
    have : 4294967296 * (b + 1) ≤ 4294967296 * P := Nat.mul_le_mul_left _ hbP
    omega
  rw [show Q * (4294967296 * P) = (P * Q) * 4294967296 by grind, hPQ] at e5
  omega
/-- A word of two products together. -/
theorem blend_step {o : List Nat} {i : Nat} {c p q SA SB t : Int} {x y tl : Nat} (hi : o.length = i) (h : (val o : Int) + 4294967296 ^ i * c = p * SA + q * SB) (ht : t = p * x + c + q * y) (htl : (tl : Int) = t % 4294967296) :
    (val (o ++ [tl]) : Int) + 4294967296 ^ (i + 1) * (t / 4294967296) = p * (SA + 4294967296 ^ i * x) + q * (SB + 4294967296 ^ i * y) := by
  have e : val [tl] = tl := by simp [val]
  have k := Int.emod_add_mul_ediv t 4294967296
  rw [val_append, hi, e]
  obtain ⟨d, hd⟩ : ∃ d, d = t / 4294967296 := ⟨_, rfl⟩
  rw [← hd, ← htl] at k
  rw [← hd]
  obtain ⟨B, hB⟩ : ∃ B : Int, B = 4294967296 ^ i := ⟨_, rfl⟩
  have hBn : ((4294967296 ^ i * tl : Nat) : Int) = B * (tl : Int) := by rw [hB]; simp
  rw [Int.natCast_add, hBn, Int.pow_succ, ← hB]
  rw [← hB] at h
  grind
theorem blend_fin {o : List Nat} {n : Nat} {c R : Int} (hi : o.length = n) (hok : Wok o) (h : (val o : Int) + 4294967296 ^ n * c = R) (hR : 0 ≤ R) (hc : c < 4294967296) : ∃ cn : Nat, c = cn ∧ cn < 4294967296 ∧ val (o ++ [cn]) = R.toNat := by
  have ho := val_lt hok
  rw [hi] at ho
  have hc0 : 0 ≤ c := by
    rcases Int.lt_or_le c 0 with h1 | h1
    · exfalso
      obtain ⟨B, hB⟩ : ∃ B : Nat, B = 4294967296 ^ n := ⟨_, rfl⟩
      have hBn : (4294967296 : Int) ^ n = (B : Int) := by rw [hB]; simp
      rw [hBn] at h
      rw [← hB] at ho
      have : (B : Int) * c ≤ (B : Int) * (-1) := Int.mul_le_mul_of_nonneg_left (by omega) (by omega)
      omega
    · exact h1
  refine ⟨c.toNat, by omega, by omega, ?_⟩
  have e : val [c.toNat] = c.toNat := by simp [val]
  rw [val_append, hi, e, ← h]
  obtain ⟨cn, rfl⟩ := Int.eq_ofNat_of_zero_le hc0
  have : (val o : Int) + 4294967296 ^ n * (cn : Int) = ((val o + 4294967296 ^ n * cn : Nat) : Int) := by simp
  rw [this, Int.toNat_natCast]
  rfl

theorem mul_bound (P : Int) (x : Nat) (h1 : -1073741824 < P) (h2 : P < 1073741824) (hx : x < 4294967296) : -4611686013132341065 ≤ P * (x : Int) ∧ P * (x : Int) ≤ 4611686013132341065 := by
  have a := Int.mul_le_mul_of_nonneg_right (show P ≤ 1073741823 by omega) (show (0 : Int) ≤ (x : Int) by omega)
  have b := Int.mul_le_mul_of_nonneg_right (show -1073741823 ≤ P by omega) (show (0 : Int) ≤ (x : Int) by omega)
  omega
theorem take_cast {l : List Nat} {i x : Nat} (h : l[i]? = some x) : ((val (l.take (i + 1)) : Nat) : Int) = (val (l.take i) : Int) + 4294967296 ^ i * (x : Int) := by rw [val_take h]; simp
set_option maxRecDepth 100000 in
set_option maxHeartbeats 8000000 in
theorem btopBits (va : Value) (m n : Nat) (w : World) (ha : Wd w va (words m)) (hm : (words m).length ≤ 549755813888) (hn : n ≤ 35184372088832) :
    Calls Tryz.prog 131 #[va, .int .i64 n] w fun e w' => e = .returned (.int .u64 ((m / 2 ^ n % 18446744073709551616 : Nat) : Int)) ∧ w' = w := by
  have okm := words_ok m
  obtain ⟨k, hk⟩ : ∃ k, k = n / 32 := ⟨_, rfl⟩
  obtain ⟨s, hs⟩ : ∃ s, s = n % 32 := ⟨_, rfl⟩
  have hnks : n = 32 * k + s := by omega
  have hs32 : s < 32 := by omega
  obtain ⟨w0, hw0⟩ : ∃ w0, w0 = ((words m)[k]?).getD 0 := ⟨_, rfl⟩
  obtain ⟨w1, hw1⟩ : ∃ w1, w1 = ((words m)[k + 1]?).getD 0 := ⟨_, rfl⟩
  obtain ⟨w2, hw2⟩ : ∃ w2, w2 = ((words m)[k + 2]?).getD 0 := ⟨_, rfl⟩
  have tb := top_bits hs32 hw0 hw1 hw2
  rw [← hnks] at tb
  obtain ⟨X, hX⟩ : ∃ X, X = m / 2 ^ n % 18446744073709551616 := ⟨_, rfl⟩
  rw [← hX] at tb ⊢
  clear hX
  have hw : ∀ j : Nat, ((words m)[j]?).getD 0 < 4294967296 := fun j => by
    cases h : (words m)[j]? with
    | none => decide
    | some x => exact okm.get h
  have hw0B := hw k
  have hw1B := hw (k + 1)
  have hw2B := hw (k + 2)
  rw [← hw0] at hw0B
  rw [← hw1] at hw1B
  rw [← hw2] at hw2B
  clear hw okm
  obtain ⟨a0, ca, rfl, hca, hce⟩ := ha.form
  clear ha
  generalize words m = l at hw0 hw1 hw2 hca hce hm ⊢
  have HA := hid hce
  have W0 : Hid (w0 = (l[k + 0]?).getD 0) := hid hw0
  have W1 := hid hw1
  have W2 := hid hw2
  obtain ⟨a, haa⟩ : ∃ a, a = 64 - s := ⟨_, rfl⟩
  obtain ⟨b, hbb⟩ : ∃ b, b = 32 - s := ⟨_, rfl⟩
  rw [← haa, ← hbb] at tb
  obtain ⟨x2, hx2⟩ : ∃ x2, x2 = w2 * 2 ^ a % 18446744073709551616 := ⟨_, rfl⟩
  obtain ⟨y1, hy1⟩ : ∃ y1, y1 = w1 * 2 ^ b := ⟨_, rfl⟩
  obtain ⟨y0, hy0⟩ : ∃ y0, y0 = w0 / 2 ^ s := ⟨_, rfl⟩
  rw [← hx2, ← hy1, ← hy0] at tb
  have hx2B : x2 < 18446744073709551616 := by rw [hx2]; exact Nat.mod_lt _ (by decide)
  have hy1B : y1 < 18446744073709551616 := by
    rw [hy1]
    have h1 : (2 : Nat) ^ b ≤ 2 ^ 32 := Nat.pow_le_pow_right (by decide) (by omega)
    have h2 := Nat.mul_le_mul (show w1 ≤ 4294967295 by omega) h1
    have h3 : (2 : Nat) ^ 32 = 4294967296 := by decide
    rw [h3] at h2
    omega
  have hy0B : y0 < 18446744073709551616 := by
    rw [hy0]
    exact Nat.lt_of_le_of_lt (Nat.div_le_self _ _) (by omega)
  obtain ⟨x1, hx1⟩ : ∃ x1, x1 = x2 ||| y1 := ⟨_, rfl⟩
  rw [← hx1] at tb
  have hx1B : x1 < 18446744073709551616 := by
    rw [hx1]
    exact Nat.or_lt_two_pow (n := 64) hx2B hy1B
  have o1 := or64 x2 y1 hx2B hy1B
  have o0 := or64 x1 y0 hx1B hy0B
  rw [← hx1] at o1
  rw [tb] at o0
  have sh2 : IntKind.u64.wrap ((w2 : Int) * 2 ^ a) = (x2 : Int) := by
    rw [IntKind.wrap_u64, hx2]; simp
  have sh1 : (w1 : Int) * 2 ^ b = (y1 : Int) := by rw [hy1]; simp
  have sh1b : IntKind.u64.wrap ((w1 : Int) * 2 ^ b) = (y1 : Int) := by rw [sh1, IntKind.wrap_u64]; omega
  have sh0 : (w0 : Int) / 2 ^ s = (y0 : Int) := by rw [hy0]; simp
  have sa : (64 : Int) - (s : Int) = (a : Int) := by omega
  have sb : (32 : Int) - (s : Int) = (b : Int) := by omega
  have sa2 : IntKind.u64.wrap (a : Int) = (a : Int) := by rw [IntKind.wrap_u64]; omega
  have sb2 : IntKind.u64.wrap (b : Int) = (b : Int) := by rw [IntKind.wrap_u64]; omega
  have ta : (a : Int).toNat = a := Int.toNat_natCast a
  have tbb : (b : Int).toNat = b := Int.toNat_natCast b
  have z0 : s = 0 → x2 = 0 := fun h => by
    rw [hx2, haa, h, show (2 : Nat) ^ (64 - 0) = 18446744073709551616 by decide, Nat.mul_mod_left]
  have Z0 := hid z0
  have OZ1 : Hid (w1 = 0 → bits BinOp.or IntKind.u64 (x2 : Int) 0 = (x1 : Int)) := hid (fun h => by
    have : y1 = 0 := by rw [hy1, h, Nat.zero_mul]
    rw [this] at o1
    exact o1)
  have OZ0 : Hid (w0 = 0 → bits BinOp.or IntKind.u64 (x1 : Int) 0 = (X : Int)) := hid (fun h => by
    have : y0 = 0 := by rw [hy0, h, Nat.zero_div]
    rw [this] at o0
    exact o0)
  have OZ2 : Hid (w2 = 0 → x2 = 0) := hid (fun h => by rw [hx2, h, Nat.zero_mul])
  have k1 : (n : Int).tdiv 32 = (k : Int) := by rw [Int.tdiv_eq_ediv_of_nonneg (Int.natCast_nonneg n)]; omega
  have k2 : (n : Int) / 32 = (k : Int) := by omega
  have s1 : (n : Int).tmod 32 = (s : Int) := by rw [Int.tmod_eq_emod_of_nonneg (Int.natCast_nonneg n)]; omega
  have s2 : (n : Int) % 32 = (s : Int) := by omega
  have s3 : IntKind.u64.wrap (s : Int) = (s : Int) := by rw [IntKind.wrap_u64]; omega
  have u0 : IntKind.u64.wrap (w0 : Int) = (w0 : Int) := by rw [IntKind.wrap_u64]; omega
  have u1 : IntKind.u64.wrap (w1 : Int) = (w1 : Int) := by rw [IntKind.wrap_u64]; omega
  have u2 : IntKind.u64.wrap (w2 : Int) = (w2 : Int) := by rw [IntKind.wrap_u64]; omega
  have hk2 : k ≤ 1099511627776 := by omega
  have hA64 : a ≤ 64 := by omega
  have hB32 : b ≤ 32 := by omega
  clear hk hs hnks hce hw0 hw1 hw2 tb hx2 hy1 hy0 hx1 z0 haa hbb sh1
  go_enter Tryz.func131, Tryz.ntmps131
  go_wp2_with fail
  go_loop [7, 8, 9] (fun s7 s8 s9 => (s8 = .int .i64 2 ∧ s7 = .int .u64 0) ∨ (s8 = .int .i64 1 ∧ s7 = .int .u64 x2) ∨ (s8 = .int .i64 0 ∧ s7 = .int .u64 x1) ∨ (s8 = .int .i64 (-1) ∧ s7 = .int .u64 X)) (fun s7 s8 s9 => (intOf s8 + 1).toNat)
  case atStart => exact .inl ⟨rfl, rfl⟩
  case round =>
    rcases hrel with ⟨rfl, rfl⟩ | ⟨rfl, rfl⟩ | ⟨rfl, rfl⟩ | ⟨rfl, rfl⟩
    · by_cases hk : k + 2 < l.length
      · obtain ⟨g, off, rfl, hg, hxa⟩ := HA.out (by omega)
        haveI : Has w g := ⟨hg⟩
        have c0 := hxa (k + 2) w2 (by have := W2.out; rw [List.getElem?_eq_getElem hk] at this ⊢; rw [this]; rfl)
        obtain ⟨kk, hkk⟩ : ∃ kk, kk = k + 2 := ⟨_, rfl⟩
        rw [← hkk] at c0 hk
        have kI : (k : Int) + 2 = (kk : Int) := by omega
        have kl : (kk : Int) < (l.length : Int) := by omega
        have k0 : (0 : Int) ≤ (kk : Int) := by omega
        clear hxa hkk
        rcases Nat.eq_zero_or_pos s with hs0 | hs0
        · have hz2 := Z0.out hs0
          subst hs0
          subst hz2
          go_wp2_with fail
          exact ⟨.inr (.inl ⟨by rfl, by rfl⟩), by simp [intOf]⟩
        · have hs1 : (0 : Int) < (s : Int) := by omega
          have hs2 : decide ((s : Int) > 0) = true := decide_eq_true (by omega)
          go_wp2_with fail
          exact ⟨.inr (.inl ⟨by rfl, by rfl⟩), by simp [intOf]⟩

      · have hz : w2 = 0 := by have := W2.out; rw [List.getElem?_eq_none (by omega)] at this; exact this
        have kl : decide ((k : Int) + 2 < (l.length : Int)) = false := decide_eq_false (by omega)
        have oz := OZ2.out hz
        clear hz
        subst oz
        rcases Nat.eq_zero_or_pos s with hs0 | hs0
        · subst hs0
          go_wp2_with fail
          exact ⟨.inr (.inl ⟨by rfl, by rfl⟩), by simp [intOf]⟩
        · have hs1 : (0 : Int) < (s : Int) := by omega
          have hs2 : decide ((s : Int) > 0) = true := decide_eq_true (by omega)
          go_wp2_with fail
          exact ⟨.inr (.inl ⟨by rfl, by rfl⟩), by simp [intOf]⟩

    · by_cases hk : k + 1 < l.length
      · obtain ⟨g, off, rfl, hg, hxa⟩ := HA.out (by omega)
        haveI : Has w g := ⟨hg⟩
        have c0 := hxa (k + 1) w1 (by have := W1.out; rw [List.getElem?_eq_getElem hk] at this ⊢; rw [this]; rfl)
        obtain ⟨kk, hkk⟩ : ∃ kk, kk = k + 1 := ⟨_, rfl⟩
        rw [← hkk] at c0 hk
        have kI : (k : Int) + 1 = (kk : Int) := by omega
        have kl : (kk : Int) < (l.length : Int) := by omega
        have k0 : (0 : Int) ≤ (kk : Int) := by omega
        clear hxa hkk
        go_wp2_with fail
        exact ⟨.inr (.inr (.inl ⟨by rfl, by rfl⟩)), by simp [intOf]⟩

      · have hz : w1 = 0 := by have := W1.out; rw [List.getElem?_eq_none (by omega)] at this; exact this
        have kl : decide ((k : Int) + 1 < (l.length : Int)) = false := decide_eq_false (by omega)
        have oz := OZ1.out hz
        clear hz
        go_wp2_with fail
        exact ⟨.inr (.inr (.inl ⟨by rfl, by rfl⟩)), by simp [intOf]⟩

    · by_cases hk : k + 0 < l.length
      · obtain ⟨g, off, rfl, hg, hxa⟩ := HA.out (by omega)
        haveI : Has w g := ⟨hg⟩
        have c0 := hxa (k + 0) w0 (by have := W0.out; rw [List.getElem?_eq_getElem hk] at this ⊢; rw [this]; rfl)
        obtain ⟨kk, hkk⟩ : ∃ kk, kk = k + 0 := ⟨_, rfl⟩
        rw [← hkk] at c0 hk
        have kI : (k : Int) + 0 = (kk : Int) := by omega
        have kl : (kk : Int) < (l.length : Int) := by omega
        have k0 : (0 : Int) ≤ (kk : Int) := by omega
        clear hxa hkk
        go_wp2_with fail
        exact ⟨.inr (.inr (.inr ⟨by rfl, by rfl⟩)), by simp [intOf]⟩

      · have hz : w0 = 0 := by have := W0.out; rw [List.getElem?_eq_none (by omega)] at this; exact this
        have kl : decide ((k : Int) + 0 < (l.length : Int)) = false := decide_eq_false (by omega)
        have oz := OZ0.out hz
        clear hz
        go_wp2_with fail
        exact ⟨.inr (.inr (.inr ⟨by rfl, by rfl⟩)), by simp [intOf]⟩

    · go_wp2_with fail
      go_ret
      exact ⟨rfl, rfl⟩
set_option maxRecDepth 100000 in
set_option maxHeartbeats 8000000 in
theorem bblend (va vb : Value) (m n : Nat) (P Q : Int) (w : World) (ha : Wd w va (words m)) (hb : Wd w vb (words n)) (hm : (words m).length ≤ 549755813888) (hnm : n ≤ m) (hP1 : -1073741824 < P) (hP2 : P < 1073741824) (hQ1 : -1073741824 < Q) (hQ2 : Q < 1073741824) (h0 : 0 ≤ P * m + Q * n) :
    Calls Tryz.prog 133 #[va, vb, .int .i64 P, .int .i64 Q] w fun e w' => ∃ v, e = .returned v ∧ Wd w' v (words (P * m + Q * n).toNat) ∧ Fresh w.heap.size v ∧ Below w.heap.size w w' := by
  have okm := words_ok m
  have okn := words_ok n
  have vm := val_words m
  have vn := val_words n
  have hkl := len_mono hnm
  obtain ⟨R, hR⟩ : ∃ R : Int, R = P * m + Q * n := ⟨_, rfl⟩
  rw [← hR] at h0 ⊢
  obtain ⟨a, ca, rfl, hca, hce⟩ := ha.form
  obtain ⟨b, cb, rfl, hcb, hcf⟩ := hb.form
  clear ha hb
  generalize words m = l at okm vm hca hce hm hkl ⊢
  generalize words n = k at okn vn hcb hcf hkl ⊢
  have HA := hid hce
  have HB := hid hcf
  have OKl := hid okm
  have OKk := hid okn
  have VM := hid vm
  have VN := hid vn
  have HR := hid hR
  have H0 := hid h0
  clear hce hcf okm okn vm vn hR h0
  go_enter Tryz.func133, Tryz.ntmps133
  go_wp2_with (at_make; refine make_words _ rfl _ _ rfl _ (l.length + 1) rfl rfl (by first | rfl | omega | simp) (by omega) ?_; intro w1 hro hb1 hlt1)
  have RO := hro
  have B1 := hid hb1
  clear hro hb1
  go_loopw [10, 11, 12] (fun s10 s11 s12 wr => ∃ (i : Nat) (c : Int) (o : List Nat), s10 = .int .i64 c ∧ s11 = .int .i64 i ∧ i ≤ l.length ∧ -2147483648 ≤ c ∧ c ≤ 2147483648 ∧ o.length = i ∧ Hid (Wok o) ∧ Hid (Ro wr w.heap.size (o ++ List.replicate (l.length + 1 - i) 0)) ∧ Hid ((val o : Int) + 4294967296 ^ i * c = P * (val (l.take i) : Int) + Q * (val (k.take i) : Int)) ∧ Hid (Below w.heap.size w wr)) (fun s10 s11 s12 _ => l.length - (intOf s11).toNat)
  case atStart => exact ⟨0, 0, [], rfl, rfl, Nat.zero_le _, by omega, by omega, rfl, hid Wok.nil, RO, hid (by simp [val]), B1⟩
  case round =>
    obtain ⟨i, c, o, rfl, rfl, hi, hcl, hch, hol, hok, hR, hS, hB⟩ := hrel
    haveI : Has wr w.heap.size := ⟨hR.out.lt⟩
    by_cases hil : i < l.length
    · obtain ⟨ga, oa, rfl, hga, hxa⟩ := HA.out (by omega)
      obtain ⟨x, hx⟩ : ∃ x, l[i]? = some x := ⟨_, List.getElem?_eq_getElem hil⟩
      have hxB := OKl.out.get hx
      have cax := cell_below (hxa i x hx) hga hB.out
      haveI : Has wr ga := ⟨Nat.lt_of_lt_of_le hga hB.out.size⟩
      obtain ⟨nn, hnn⟩ : ∃ nn, l.length + 1 - i = nn + 1 := ⟨l.length - i, by omega⟩
      have hR2 := hR.out
      rw [hnn] at hR2
      have co := hR2.cell (get_next o nn)
      have fo := hR2.free o.length
      rw [hol] at co fo
      have hi0 : (0 : Int) ≤ (i : Int) := by omega
      have hil' : (i : Int) < (l.length : Int) := by omega
      have hil2 : (i : Int) < (l.length : Int) + 1 := by omega
      by_cases hik : i < k.length
      · obtain ⟨gb, ob, rfl, hgb, hyb⟩ := HB.out (by omega)
        obtain ⟨y, hy⟩ : ∃ y, k[i]? = some y := ⟨_, List.getElem?_eq_getElem hik⟩
        have hyB := OKk.out.get hy
        have cby := cell_below (hyb i y hy) hgb hB.out
        haveI : Has wr gb := ⟨Nat.lt_of_lt_of_le hgb hB.out.size⟩
        have hik' : (i : Int) < (k.length : Int) := by omega
        obtain ⟨px, hpx⟩ : ∃ px, px = P * (x : Int) := ⟨_, rfl⟩
        obtain ⟨b1, b2⟩ := mul_bound P x hP1 hP2 hxB
        rw [← hpx] at b1 b2
        obtain ⟨t1, ht1⟩ : ∃ t1, t1 = px + c := ⟨_, rfl⟩
        obtain ⟨qy, hqy⟩ : ∃ qy, qy = Q * (y : Int) := ⟨_, rfl⟩
        obtain ⟨b3, b4⟩ := mul_bound Q y hQ1 hQ2 hyB
        rw [← hqy] at b3 b4
        obtain ⟨t, ht0⟩ : ∃ t, t = t1 + qy := ⟨_, rfl⟩
        have ht : t = P * (x : Int) + c + Q * (y : Int) := by rw [ht0, ht1, hpx, hqy]
        have ST := blend_step (tl := (t % 4294967296).toNat) hol hS.out ht (by omega)
        obtain ⟨tl, htl⟩ : ∃ tl, tl = (t % 4294967296).toNat := ⟨_, rfl⟩
        obtain ⟨tc, htc⟩ : ∃ tc, tc = t / 4294967296 := ⟨_, rfl⟩
        rw [← htl, ← htc, ← take_cast hx, ← take_cast hy] at ST
        have SN := hid ST
        have hc1 : -2147483648 ≤ tc := by omega
        have hc2 : tc ≤ 2147483648 := by omega
        have htlB : tl < 4294967296 := by omega
        have e1 : IntKind.i64.wrap (x : Int) = (x : Int) := by rw [IntKind.wrap_i64]; omega
        have e2 : P * (x : Int) = px := hpx.symm
        have e3 : IntKind.i64.wrap px = px := by rw [IntKind.wrap_i64]; omega
        have e4 : px + c = t1 := ht1.symm
        have e5 : IntKind.i64.wrap t1 = t1 := by rw [IntKind.wrap_i64]; omega
        have f1 : IntKind.i64.wrap (y : Int) = (y : Int) := by rw [IntKind.wrap_i64]; omega
        have f2 : Q * (y : Int) = qy := hqy.symm
        have f3 : IntKind.i64.wrap qy = qy := by rw [IntKind.wrap_i64]; omega
        have f4 : t1 + qy = t := ht0.symm
        have f5 : IntKind.i64.wrap t = t := by rw [IntKind.wrap_i64]; omega
        have e6 : IntKind.u32.wrap t = (tl : Int) := by rw [IntKind.wrap_u32]; omega
        have e7 : t / 4294967296 = tc := htc.symm
        have RN : Hid (Ro (wr.setCell ⟨w.heap.size, i, none⟩ (.int .u32 (tl : Int))) w.heap.size ((o ++ [tl]) ++ List.replicate nn 0)) := hid (by have := hR2.set i tl; rw [← hol, set_next] at this; rw [← hol]; exact this)
        have ON : Hid (Wok (o ++ [tl])) := hid (hok.out.append (Wok.cons htlB Wok.nil))
        have BN := hid (below_store (i := i) (v := .int .u32 (tl : Int)) hB.out (Nat.le_refl _))
        have hon : (o ++ [tl]).length = i + 1 := by simp [hol]
        have hnn2 : nn = l.length + 1 - (i + 1) := by omega
        clear ST hx hxa hR2 ht ht1 hpx htl htc hy hyb hqy ht0
        go_wp2_with fail
        go_roundw
        case rel => exact ⟨i + 1, tc, o ++ [tl], by rfl, by rfl, by omega, hc1, hc2, hon, ON, by rw [← hnn2]; exact RN, SN, BN⟩
        case measure => simp [intOf]; omega
      · have hik' : decide ((i : Int) < (k.length : Int)) = false := decide_eq_false (by omega)
        obtain ⟨px, hpx⟩ : ∃ px, px = P * (x : Int) := ⟨_, rfl⟩
        obtain ⟨b1, b2⟩ := mul_bound P x hP1 hP2 hxB
        rw [← hpx] at b1 b2
        obtain ⟨t1, ht1⟩ : ∃ t1, t1 = px + c := ⟨_, rfl⟩
        obtain ⟨t, ht0⟩ : ∃ t, t = t1 := ⟨_, rfl⟩
        have ht : t = P * (x : Int) + c + Q * ((0 : Nat) : Int) := by rw [ht0, ht1, hpx]; simp
        have ST := blend_step (tl := (t % 4294967296).toNat) hol hS.out ht (by omega)
        obtain ⟨tl, htl⟩ : ∃ tl, tl = (t % 4294967296).toNat := ⟨_, rfl⟩
        obtain ⟨tc, htc⟩ : ∃ tc, tc = t / 4294967296 := ⟨_, rfl⟩
        rw [← htl, ← htc, ← take_cast hx, show Q * ((val (k.take i) : Int) + 4294967296 ^ i * ((0 : Nat) : Int)) = Q * (val (k.take (i + 1)) : Int) by rw [take_all (by omega)]; simp] at ST
        have SN := hid ST
        have hc1 : -2147483648 ≤ tc := by omega
        have hc2 : tc ≤ 2147483648 := by omega
        have htlB : tl < 4294967296 := by omega
        have e1 : IntKind.i64.wrap (x : Int) = (x : Int) := by rw [IntKind.wrap_i64]; omega
        have e2 : P * (x : Int) = px := hpx.symm
        have e3 : IntKind.i64.wrap px = px := by rw [IntKind.wrap_i64]; omega
        have e4 : px + c = t1 := ht1.symm
        have e5 : IntKind.i64.wrap t1 = t1 := by rw [IntKind.wrap_i64]; omega
        subst ht0
        have e6 : IntKind.u32.wrap t = (tl : Int) := by rw [IntKind.wrap_u32]; omega
        have e7 : t / 4294967296 = tc := htc.symm
        have RN : Hid (Ro (wr.setCell ⟨w.heap.size, i, none⟩ (.int .u32 (tl : Int))) w.heap.size ((o ++ [tl]) ++ List.replicate nn 0)) := hid (by have := hR2.set i tl; rw [← hol, set_next] at this; rw [← hol]; exact this)
        have ON : Hid (Wok (o ++ [tl])) := hid (hok.out.append (Wok.cons htlB Wok.nil))
        have BN := hid (below_store (i := i) (v := .int .u32 (tl : Int)) hB.out (Nat.le_refl _))
        have hon : (o ++ [tl]).length = i + 1 := by simp [hol]
        have hnn2 : nn = l.length + 1 - (i + 1) := by omega
        clear ST hx hxa hR2 ht ht1 hpx htl htc
        go_wp2_with fail
        go_roundw
        case rel => exact ⟨i + 1, tc, o ++ [tl], by rfl, by rfl, by omega, hc1, hc2, hon, ON, by rw [← hnn2]; exact RN, SN, BN⟩
        case measure => simp [intOf]; omega
    · have hieq : i = l.length := by omega
      have hR2 := hR.out
      rw [show l.length + 1 - i = 0 + 1 by omega] at hR2
      have co := hR2.cell (get_next o 0)
      have fo := hR2.free o.length
      have hS2 := hS.out
      rw [List.take_of_length_le (by omega), List.take_of_length_le (by omega), VM.out, VN.out, ← HR.out] at hS2
      obtain ⟨cn, rfl, hcn, hvn⟩ := blend_fin hol hok.out hS2 H0.out (by omega)
      have hRN := hR2.set o.length cn
      rw [set_next, List.replicate_zero, List.append_nil, hol, hieq] at hRN
      rw [hol, hieq] at co fo
      have RN := hid hRN
      have BN := hid (below_store (i := l.length) (v := .int .u32 (cn : Int)) hB.out (Nat.le_refl _))
      have hcy' : IntKind.u32.wrap (cn : Int) = (cn : Int) := by rw [IntKind.wrap_u32]; omega
      have hlen : (o ++ [cn]).length = l.length + 1 := by simp [hol, hieq]
      have OKN : Hid (Wok (o ++ [cn])) := hid (hok.out.append (Wok.cons hcn Wok.nil))
      have HV := hid hvn
      have W2 : Hid (Wd (wr.setCell ⟨w.heap.size, l.length, none⟩ (.int .u32 (cn : Int))) (.slice (some ⟨w.heap.size, 0, none⟩) (l.length + 1) (l.length + 1)) (o ++ [cn])) := hid (by have := RN.out.wd (cap := l.length + 1) (by omega); rw [hlen] at this; exact this)
      have hlen2 : (o ++ [cn]).length ≤ 1099511627776 := by omega
      subst hieq
      clear hR2 hRN hvn hS2 hcl hch hlen
      go_wp2_with fail
      refine (btrim _ _ _ W2.out OKN.out hlen2).mono ?_
      rintro e w' ⟨v, rfl, hw, hbl, rfl⟩
      rw [HV.out] at hw
      have HW := hid hw
      clear hw
      go_wp2_with fail
      go_ret
      exact ⟨_, rfl, HW.out, (Fresh.own (Nat.le_refl _)).of hbl, BN.out⟩
end Big
end
end Go.Proofs.YtcoillcppmibgaaGreatDoor
