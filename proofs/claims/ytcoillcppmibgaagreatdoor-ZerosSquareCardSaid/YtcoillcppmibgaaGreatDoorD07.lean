/- Words in memory: times a power of two. Bits of words. Bits of words. Noughts at the end; times a word. -/
import Derived.Test.YtcoillcppmibgaaGreatDoorD06
import Derived.Laws.MathBits
import Derived.Lib.TrailingZeros
import Derived.Deep.AppendLies
set_option linter.unusedSimpArgs false
set_option linter.unusedVariables false
namespace Go.Proofs.YtcoillcppmibgaaGreatDoor
section
open Go.RowKit
namespace Big
theorem or32 (a b : Nat) (ha : a < 4294967296) (hb : b < 4294967296) : bits BinOp.or IntKind.u32 (a : Int) (b : Int) = ((a ||| b : Nat) : Int) := u32_or_nat a b ha hb

theorem downL_get (s : Nat) : ∀ (D : List Nat) (i x y : Nat), D[i]? = some x → D[i + 1]? = some y → (downL s D)[i]? = some ((x + 4294967296 * y) / 2 ^ s % 4294967296) := by
  intro D
  induction D with
  | nil => intro i x y h; cases h
  | cons a D ih =>
    intro i x y hx hy
    cases D with
    | nil => simp at hy
    | cons b D =>
      cases i with
      | zero => simp at hx hy; subst hx; subst hy; rfl
      | succ i =>
        rw [List.getElem?_cons_succ] at hx hy
        exact ih i x y hx hy
theorem downL_last (s : Nat) : ∀ (D : List Nat) (i x : Nat), D[i]? = some x → i + 1 = D.length → (downL s D)[i]? = some (x / 2 ^ s) := by
  intro D
  induction D with
  | nil => intro i x h; cases h
  | cons a D ih =>
    intro i x hx hl
    cases D with
    | nil => cases i with
      | zero => simp at hx; subst hx; rfl
      | succ i => simp at hl
    | cons b D =>
      cases i with
      | zero => simp at hl
      | succ i =>
        rw [List.getElem?_cons_succ] at hx
        exact ih i x hx (by simpa using hl)
theorem downL_ok (s : Nat) : ∀ (D : List Nat), Wok D → Wok (downL s D) := by
  intro D
  induction D with
  | nil => intro _; exact Wok.nil
  | cons a D ih =>
    intro h
    cases D with
    | nil => exact Wok.cons (Nat.lt_of_le_of_lt (Nat.div_le_self _ _) h.head) Wok.nil
    | cons b D => exact Wok.cons (Nat.mod_lt _ (by decide)) (ih h.tail)
theorem val_drop_div {l : List Nat} (h : Wok l) {k : Nat} (hk : k ≤ l.length) : val (l.drop k) = val l / 4294967296 ^ k := by
  have h1 := val_append (l.take k) (l.drop k)
  have h2 := val_lt (h.take k)
  rw [List.take_append_drop] at h1
  rw [List.length_take, Nat.min_eq_left hk] at h1 h2
  rw [h1, Nat.add_mul_div_left _ _ (Nat.pow_pos (by decide)), Nat.div_eq_of_lt h2, Nat.zero_add]
theorem or_words2 (x y : Nat) (hx : x < 4294967296) (hy : y < 4294967296) : bits BinOp.or IntKind.u64 (x : Int) ((y : Int) * 4294967296) = ((x + 4294967296 * y : Nat) : Int) := by
  have h1 := u64_or_nat x (y * 4294967296) (by omega) (by omega)
  have h2 : x ||| (y * 4294967296) = x + 4294967296 * y := by
    have := Nat.two_pow_add_eq_or_of_lt (i := 32) (b := x) (by simpa using hx) y
    rw [show (2 : Nat) ^ 32 = 4294967296 by decide] at this
    rw [Nat.or_comm, Nat.mul_comm, ← this]; omega
  rw [h2] at h1
  rw [← h1]
  simp
theorem take_next {l : List Nat} {i x : Nat} (h : l[i]? = some x) : l.take (i + 1) = l.take i ++ [x] := by rw [List.take_add_one, h]; rfl
set_option maxRecDepth 100000 in
set_option maxHeartbeats 8000000 in
theorem bup (va : Value) (m n : Nat) (w : World) (ha : Wd w va (words m)) (hm : (words m).length ≤ 274877906944) (hn : n ≤ 4398046511104) :
    Calls Tryz.prog 84 #[va, .int .i64 n] w fun e w' => ∃ v, e = .returned v ∧ Wd w' v (words (m * 2 ^ n)) ∧ Fresh w.heap.size v ∧ Below w.heap.size w w' := by
  have okm := words_ok m
  have vm := val_words m
  have l0 := @words_len0 m
  obtain ⟨a, ca, rfl, hca, hce⟩ := ha.form
  clear ha
  generalize words m = l at okm vm l0 hca hce hm ⊢
  have HA := hid hce
  have OKl := hid okm
  have VM := hid vm
  have L0 := hid l0
  clear hce okm vm l0
  obtain ⟨R, hR0⟩ : ∃ R, R = words (m * 2 ^ n) := ⟨_, rfl⟩
  rw [← hR0]
  have HR0 := hid hR0
  clear hR0
  by_cases hl0 : l.length = 0
  · have hm0 : m = 0 := L0.out.1 hl0
    have HM := hid hm0
    clear hm0
    go_enter Tryz.func84, Tryz.ntmps84
    go_wp2_with fail
    go_ret
    refine ⟨_, rfl, ?_, Fresh.nil _, Below.refl _ _⟩
    rw [HR0.out, HM.out, Nat.zero_mul, words_0]
    exact Wd.nil _
  · have hl1 : ((l.length : Int) == 0) = false := beq_eq_false_iff_ne.2 (by omega)
    obtain ⟨k, hk⟩ : ∃ k, k = n / 32 := ⟨_, rfl⟩
    obtain ⟨s, hs⟩ : ∃ s, s = n % 32 := ⟨_, rfl⟩
    have hnks : n = 32 * k + s := by omega
    have hs32 : s < 32 := by omega
    have hk2 : k ≤ 137438953472 := by omega
    have k1 : (n : Int).tdiv 32 = (k : Int) := by rw [Int.tdiv_eq_ediv_of_nonneg (Int.natCast_nonneg n)]; omega
    have k2 : (n : Int) / 32 = (k : Int) := by omega
    have s1 : (n : Int).tmod 32 = (s : Int) := by rw [Int.tmod_eq_emod_of_nonneg (Int.natCast_nonneg n)]; omega
    have s2 : (n : Int) % 32 = (s : Int) := by omega
    have s3 : IntKind.u64.wrap (s : Int) = (s : Int) := by rw [IntKind.wrap_u64]; omega
    have NKS := hid hnks
    clear hk hs hnks
    go_enter Tryz.func84, Tryz.ntmps84
    go_wp2_with (at_make; refine make_words _ rfl _ _ rfl _ (l.length + k + 1) rfl rfl (by first | rfl | omega | simp) (by omega) ?_; intro w1 hro hb1 hlt1)
    have RO : Hid (Ro w1 w.heap.size (List.replicate k 0 ++ ([] ++ (0 :: List.replicate l.length 0)))) := hid (by
      have := hro.out
      rw [show l.length + k + 1 = k + (l.length + 1) by omega, ← List.replicate_append_replicate, List.replicate_succ] at this
      exact this)
    have B1 := hid hb1
    clear hro hb1
    go_loopw [8, 9] (fun s8 s9 wr => ∃ (i c : Nat) (o : List Nat), s8 = .int .i64 i ∧ i ≤ l.length ∧ c < 2 ^ s ∧ o.length = i ∧ Hid (Wok o) ∧ Hid (Ro wr w.heap.size (List.replicate k 0 ++ (o ++ (c :: List.replicate (l.length - i) 0)))) ∧ Hid (val o + 4294967296 ^ i * c = val (l.take i) * 2 ^ s) ∧ Hid (Below w.heap.size w wr)) (fun s8 s9 _ => l.length - (intOf s8).toNat)
    case atStart => exact ⟨0, 0, [], rfl, Nat.zero_le _, Nat.pow_pos (by decide), rfl, hid Wok.nil, RO, hid (by simp [val]), B1⟩
    case round =>
      obtain ⟨i, c, o, rfl, hi, hc, hol, hok, hR, hS, hB⟩ := hrel
      haveI : Has wr w.heap.size := ⟨hR.out.lt⟩
      have hp32 : (2 : Nat) ^ s < 4294967296 := by
        have : (2 : Nat) ^ s < 2 ^ 32 := Nat.pow_lt_pow_right (by decide) hs32
        simpa using this
      by_cases hil : i < l.length
      · obtain ⟨ga, oa, rfl, hga, hxa⟩ := HA.out (by omega)
        have hx : l[i]? = some l[i] := List.getElem?_eq_getElem hil
        obtain ⟨x, hxx⟩ : ∃ x, x = l[i] := ⟨_, rfl⟩
        rw [← hxx] at hx
        have hxB := OKl.out.get hx
        have cax := cell_below (hxa i x hx) hga hB.out
        haveI : Has wr ga := ⟨Nat.lt_of_lt_of_le hga hB.out.size⟩
        obtain ⟨nn, hnn⟩ : ∃ nn, l.length - i = nn + 1 := ⟨l.length - i - 1, by omega⟩
        have hR2 := hR.out
        rw [hnn, List.replicate_succ] at hR2
        have co := hR2.cell (get_mid (List.replicate k 0) o (0 :: List.replicate nn 0) c)
        have fo := hR2.free ((List.replicate k 0).length + o.length)
        have fo2 := hR2.free ((List.replicate k 0).length + o.length + 1)
        obtain ⟨t, ht⟩ : ∃ t, t = x * 2 ^ s := ⟨_, rfl⟩
        obtain ⟨u1, u2, u3, u4⟩ := up_step hol hS.out hc hs32 hxB
        rw [← val_take hx] at u1
        rw [← ht] at u1 u2 u3 u4
        have htI : (x : Int) * 2 ^ s = (t : Int) := by rw [ht]; simp
        have htB : t < 18446744073709551616 := by
          have : x * 2 ^ s < 4294967296 * 4294967296 := Nat.mul_lt_mul'' hxB hp32
          omega
        have hR3 := hR2.set ((List.replicate k 0).length + o.length) (c + t % 4294967296)
        rw [set_mid] at hR3
        have hR4 := hR3.set ((List.replicate k 0).length + (o ++ [c + t % 4294967296]).length) (t / 4294967296)
        rw [set_mid] at hR4
        have c2 := hR3.cell (get_mid (List.replicate k 0) (o ++ [c + t % 4294967296]) (List.replicate nn 0) 0)
        obtain ⟨q, hq⟩ : ∃ q, q = i + k := ⟨_, rfl⟩
        rw [List.length_replicate, hol, Nat.add_comm k i, ← hq] at co fo fo2
        rw [List.length_replicate, hol, Nat.add_comm k i, ← hq] at hR3
        rw [List.length_replicate, List.length_append, List.length_singleton, hol, show k + (i + 1) = q + 1 by omega, Nat.add_comm k i, ← hq] at hR4 c2
        have q2 : (i : Int) + (k : Int) = (q : Int) := by omega
        have q3 : (0 : Int) ≤ (q : Int) := by omega
        have q4 : (q : Int) < (l.length : Int) + (k : Int) + 1 := by omega
        have q5 : (q : Int) + 1 < (l.length : Int) + (k : Int) + 1 := by omega
        have hi0 : (0 : Int) ≤ (i : Int) := by omega
        have hil' : (i : Int) < (l.length : Int) := by omega
        have e1 : IntKind.u64.wrap (x : Int) = (x : Int) := by rw [IntKind.wrap_u64]; omega
        have e2 : IntKind.u64.wrap ((x : Int) * 2 ^ s) = (t : Int) := by rw [htI, IntKind.wrap_u64]; omega
        obtain ⟨tl, htl⟩ : ∃ tl, tl = t % 4294967296 := ⟨_, rfl⟩
        obtain ⟨th, hth⟩ : ∃ th, th = t / 4294967296 := ⟨_, rfl⟩
        have e3 : IntKind.u32.wrap (t : Int) = (tl : Int) := by rw [IntKind.wrap_u32]; omega
        have e3b : (t : Int) % 4294967296 = (tl : Int) := by omega
        have e4 : (t : Int) / 4294967296 = (th : Int) := by omega
        rw [← htl] at u1 u3 u4 hR3 hR4 c2
        rw [← hth] at u1 u2 hR4
        have hcB : c < 4294967296 := by omega
        have e5 : bits BinOp.or IntKind.u32 (c : Int) (tl : Int) = ((c + tl : Nat) : Int) := by rw [or32 c tl hcB (by omega), u4]
        have e6 : IntKind.u32.wrap (th : Int) = (th : Int) := by rw [IntKind.wrap_u32]; omega
        obtain ⟨z, hz⟩ : ∃ z, z = c + tl := ⟨_, rfl⟩
        rw [← hz] at e5 u1 u3 hR3 hR4 c2
        have RN : Hid (Ro ((wr.setCell ⟨w.heap.size, q, none⟩ (.int .u32 (z : Int))).setCell ⟨w.heap.size, q + 1, none⟩ (.int .u32 (th : Int))) w.heap.size (List.replicate k 0 ++ ((o ++ [z]) ++ (th :: List.replicate nn 0)))) := hid (by rw [List.append_assoc (o ++ [z])] at hR4; exact hR4)
        have BN := hid (below_store (i := q + 1) (v := .int .u32 (th : Int)) (below_store (i := q) (v := .int .u32 (z : Int)) hB.out (Nat.le_refl _)) (Nat.le_refl _))
        have ON : Hid (Wok (o ++ [z])) := hid (hok.out.append (Wok.cons u3 Wok.nil))
        have SN := hid u1
        have hon : (o ++ [z]).length = i + 1 := by simp [hol]
        have hnn2 : nn = l.length - (i + 1) := by omega
        clear u1 u4 hx hxx hxa ht hR hR2 hR3 hR4 hz htl hth hq htI
        go_wp2_with fail
        go_roundw
        case rel => exact ⟨i + 1, th, o ++ [z], by rfl, by omega, u2, hon, ON, by rw [← hnn2]; exact RN, SN, BN⟩
        case measure => simp [intOf]; omega
      · obtain rfl : i = l.length := by omega
        have hR2 := hR.out
        rw [Nat.sub_self, List.replicate_zero] at hR2
        have hlen : (List.replicate k 0 ++ (o ++ [c])).length = l.length + k + 1 := by simp [hol]; omega
        have hval : words (val (List.replicate k 0 ++ (o ++ [c]))) = R := by
          have h1 := hS.out
          have e : val [c] = c := by simp [val]
          rw [HR0.out, val_append, val_rep, List.length_replicate, val_append, hol, e, h1, List.take_length, VM.out, NKS.out, Nat.pow_add, Nat.pow_mul, show (2 : Nat) ^ 32 = 4294967296 by decide, Nat.zero_add]
          rw [← Nat.mul_assoc, Nat.mul_comm (4294967296 ^ k) m, Nat.mul_assoc]
        have OKN : Hid (Wok (List.replicate k 0 ++ (o ++ [c]))) := hid ((Wok.rep k).append (hok.out.append (Wok.cons (by omega) Wok.nil)))
        have W2 : Hid (Wd wr (.slice (some ⟨w.heap.size, 0, none⟩) (l.length + k + 1) (l.length + k + 1)) (List.replicate k 0 ++ (o ++ [c]))) := hid (by have := hR2.wd (cap := l.length + k + 1) (by omega); rw [hlen] at this; exact this)
        have HV := hid hval
        have hlen2 : (List.replicate k 0 ++ (o ++ [c])).length ≤ 1099511627776 := by omega
        clear hR2 hval
        go_wp2_with fail
        refine (btrim _ _ _ W2.out OKN.out hlen2).mono ?_
        rintro e w' ⟨v, rfl, hw, hbl, rfl⟩
        rw [HV.out] at hw
        have HW := hid hw
        clear hw
        go_wp2_with fail
        go_ret
        exact ⟨_, rfl, HW.out, (Fresh.own (Nat.le_refl _)).of hbl, hB.out⟩
set_option maxRecDepth 100000 in
set_option maxHeartbeats 8000000 in
theorem bdown (va : Value) (m n : Nat) (w : World) (ha : Wd w va (words m)) (hm : (words m).length ≤ 274877906944) (hn : n ≤ 4398046511104) :
    Calls Tryz.prog 145 #[va, .int .i64 n] w fun e w' => ∃ v, e = .returned v ∧ Wd w' v (words (m / 2 ^ n)) ∧ Fresh w.heap.size v ∧ Below w.heap.size w w' := by
  have okm := words_ok m
  have vm := val_words m
  have ltm := words_lt m
  obtain ⟨a, ca, rfl, hca, hce⟩ := ha.form
  clear ha
  generalize words m = l at okm vm ltm hca hce hm ⊢
  have HA := hid hce
  have OKl := hid okm
  have VM := hid vm
  have LTM := hid ltm
  clear hce okm vm ltm
  obtain ⟨R, hR0⟩ : ∃ R, R = words (m / 2 ^ n) := ⟨_, rfl⟩
  rw [← hR0]
  have HR0 := hid hR0
  clear hR0
  obtain ⟨k, hk⟩ : ∃ k, k = n / 32 := ⟨_, rfl⟩
  obtain ⟨s, hs⟩ : ∃ s, s = n % 32 := ⟨_, rfl⟩
  have hnks : n = 32 * k + s := by omega
  have hs32 : s < 32 := by omega
  have hk2 : k ≤ 137438953472 := by omega
  have k1 : (n : Int).tdiv 32 = (k : Int) := by rw [Int.tdiv_eq_ediv_of_nonneg (Int.natCast_nonneg n)]; omega
  have k2 : (n : Int) / 32 = (k : Int) := by omega
  have s1 : (n : Int).tmod 32 = (s : Int) := by rw [Int.tmod_eq_emod_of_nonneg (Int.natCast_nonneg n)]; omega
  have s2 : (n : Int) % 32 = (s : Int) := by omega
  have s3 : IntKind.u64.wrap (s : Int) = (s : Int) := by rw [IntKind.wrap_u64]; omega
  have pw : (2 : Nat) ^ n = 4294967296 ^ k * 2 ^ s := by rw [hnks, Nat.pow_add, Nat.pow_mul]
  have NKS := hid pw
  clear hk hs hnks pw
  by_cases hkl : l.length ≤ k
  · have hkl' : (k : Int) ≥ (l.length : Int) := by omega
    have hz : R = [] := by
      rw [HR0.out, NKS.out, Nat.div_eq_of_lt, words_0]
      have h1 := LTM.out
      have h2 : 4294967296 ^ l.length ≤ 4294967296 ^ k := Nat.pow_le_pow_right (by decide) hkl
      have h3 : 4294967296 ^ k * 1 ≤ 4294967296 ^ k * 2 ^ s := Nat.mul_le_mul_left _ (Nat.pow_pos (by decide))
      omega
    have HZ := hid hz
    clear hz
    go_enter Tryz.func145, Tryz.ntmps145
    go_wp2_with fail
    go_ret
    refine ⟨_, rfl, ?_, Fresh.nil _, Below.refl _ _⟩
    rw [HZ.out]
    exact Wd.nil _
  · have hkl' : ¬ (k : Int) ≥ (l.length : Int) := by omega
    obtain ⟨D, hD⟩ : ∃ D, D = l.drop k := ⟨_, rfl⟩
    have hDl : D.length = l.length - k := by rw [hD, List.length_drop]
    have hDlI : (l.length : Int) - (k : Int) = (D.length : Int) := by omega
    have hdl := downL_len s D
    have hval : words (val (downL s D)) = R := by
      rw [HR0.out, NKS.out, downL_val s hs32 D (by rw [hD]; exact OKl.out.drop k), hD, val_drop_div OKl.out (by omega), VM.out, Nat.div_div_eq_div_mul]
    have HV := hid hval
    have OKN : Hid (Wok (downL s D)) := hid (downL_ok s D (by rw [hD]; exact OKl.out.drop k))
    have HD := hid hD
    have HDL := hid hDl
    have hDb : D.length ≤ 274877906944 := by omega
    have HDI := hid hdl
    clear hval hD hDl hdl
    go_enter Tryz.func145, Tryz.ntmps145
    go_wp2_with (at_make; refine make_words _ rfl _ _ rfl _ D.length rfl rfl (by first | rfl | omega | simp) (by omega) ?_; intro w1 hro hb1 hlt1)
    have RO : Hid (Ro w1 w.heap.size ((downL s D).take 0 ++ List.replicate (D.length - 0) 0)) := hro
    have B1 := hid hb1
    clear hro hb1
    go_loopw [8, 9] (fun s8 s9 wr => ∃ (i : Nat), s8 = .int .i64 i ∧ i ≤ D.length ∧ Hid (Ro wr w.heap.size ((downL s D).take i ++ List.replicate (D.length - i) 0)) ∧ Hid (Below w.heap.size w wr)) (fun s8 s9 _ => D.length - (intOf s8).toNat)
    case atStart => exact ⟨0, rfl, Nat.zero_le _, RO, B1⟩
    case round =>
      obtain ⟨i, rfl, hi, hR, hB⟩ := hrel
      haveI : Has wr w.heap.size := ⟨hR.out.lt⟩
      by_cases hil : i < D.length
      · obtain ⟨ga, oa, rfl, hga, hxa⟩ := HA.out (by have := HDL.out; omega)
        have hD := HD.out
        have hDl := HDL.out
        have hdl := HDI.out
        obtain ⟨x, hxx⟩ : ∃ x, x = l[i + k]'(by omega) := ⟨_, rfl⟩
        have hx : l[i + k]? = some x := by rw [hxx]; exact List.getElem?_eq_getElem (by omega)
        have hxB := OKl.out.get hx
        have cax := cell_below (hxa (i + k) x hx) hga hB.out
        have hxD : D[i]? = some x := by rw [hD, List.getElem?_drop, Nat.add_comm k i]; exact hx
        haveI : Has wr ga := ⟨Nat.lt_of_lt_of_le hga hB.out.size⟩
        obtain ⟨nn, hnn⟩ : ∃ nn, D.length - i = nn + 1 := ⟨D.length - i - 1, by omega⟩
        have hR2 := hR.out
        rw [hnn] at hR2
        have htl : ((downL s D).take i).length = i := by rw [List.length_take, hdl]; omega
        have co := hR2.cell (get_next ((downL s D).take i) nn)
        have fo := hR2.free i
        rw [htl] at co
        obtain ⟨q, hq⟩ : ∃ q, q = i + k := ⟨_, rfl⟩
        rw [← hq] at cax
        have q2 : (i : Int) + (k : Int) = (q : Int) := by omega
        have q3 : (0 : Int) ≤ (q : Int) := by omega
        have q4 : (q : Int) < (l.length : Int) := by omega
        have hi0 : (0 : Int) ≤ (i : Int) := by omega
        have hil' : (i : Int) < (D.length : Int) := by omega
        have e1 : IntKind.u64.wrap (x : Int) = (x : Int) := by rw [IntKind.wrap_u64]; omega
        by_cases hy1 : q + 1 < l.length
        focus
          obtain ⟨y, hyy⟩ : ∃ y, y = l[i + k + 1]'(by omega) := ⟨_, rfl⟩
          have hy : l[i + k + 1]? = some y := by rw [hyy]; exact List.getElem?_eq_getElem (by omega)
          have hyB := OKl.out.get hy
          have cay := cell_below (hxa (i + k + 1) y hy) hga hB.out
          have hyD : D[i + 1]? = some y := by rw [hD, List.getElem?_drop, show k + (i + 1) = i + k + 1 by omega]; exact hy
          have hz := downL_get s D i x y hxD hyD
          have r1 : (q : Int) + 1 < (l.length : Int) := by omega
          have e1y : IntKind.u64.wrap (y : Int) = (y : Int) := by rw [IntKind.wrap_u64]; omega
          have eo := or_words2 x y hxB hyB
          have esh : IntKind.u64.wrap ((y : Int) * 4294967296) = (y : Int) * 4294967296 := by rw [IntKind.wrap_u64]; omega
          obtain ⟨t, ht⟩ : ∃ t, t = x + 4294967296 * y := ⟨_, rfl⟩
          rw [← ht] at hz eo
          have htB : t < 18446744073709551616 := by omega
          rw [show i + k + 1 = q + 1 by omega] at cay
          have cay2 := cay
          rw [← Nat.add_assoc] at cay2
          clear hyy hy hyD
        rotate_left
        focus
          have hz0 := downL_last s D i x hxD (by omega)
          have r1 : ¬ (q : Int) + 1 < (l.length : Int) := by omega
          obtain ⟨t, ht⟩ : ∃ t, t = x := ⟨_, rfl⟩
          have hz : (downL s D)[i]? = some (t / 2 ^ s % 4294967296) := by
            rw [hz0, ht, Nat.mod_eq_of_lt (Nat.lt_of_le_of_lt (Nat.div_le_self _ _) hxB)]
          have htB : t < 18446744073709551616 := by omega
          clear hz0
          rw [← ht] at cax e1
        rotate_left
        all_goals
          have ediv : (t : Int) / 2 ^ s = ((t / 2 ^ s : Nat) : Int) := by simp
          obtain ⟨td, htd⟩ : ∃ td, td = t / 2 ^ s := ⟨_, rfl⟩
          rw [← htd] at hz ediv
          have htdB : td < 18446744073709551616 := by rw [htd]; exact Nat.lt_of_le_of_lt (Nat.div_le_self _ _) htB
          have e3 : IntKind.u32.wrap (td : Int) = ((td % 4294967296 : Nat) : Int) := by rw [IntKind.wrap_u32]; omega
          have e3b : (td : Int) % 4294967296 = ((td % 4294967296 : Nat) : Int) := by omega
          have RN : Hid (Ro (wr.setCell ⟨w.heap.size, i, none⟩ (.int .u32 ((td % 4294967296 : Nat) : Int))) w.heap.size ((downL s D).take (i + 1) ++ List.replicate nn 0)) := hid (by
            have := hR2.set i (td % 4294967296)
            rw [take_next hz]
            have h5 := set_next ((downL s D).take i) nn (td % 4294967296)
            rw [htl] at h5
            rw [h5] at this
            exact this)
          have BN := hid (below_store (i := i) (v := .int .u32 ((td % 4294967296 : Nat) : Int)) hB.out (Nat.le_refl _))
          have hnn2 : nn = D.length - (i + 1) := by omega
          generalize td % 4294967296 = z at e3 e3b RN BN ⊢
          clear hz htd hxx hx hxD hxa hR2 htl hR hDl hdl hD hq ht
          go_wp2_with fail
          go_roundw
          case rel => exact ⟨i + 1, by rfl, by omega, by rw [← hnn2]; exact RN, BN⟩
          case measure => simp [intOf]; omega
      · obtain rfl : i = D.length := by omega
        have hR2 := hR.out
        have hdl := HDI.out
        rw [Nat.sub_self, List.replicate_zero, List.append_nil, ← hdl, List.take_length] at hR2
        have W2 : Hid (Wd wr (.slice (some ⟨w.heap.size, 0, none⟩) D.length D.length) (downL s D)) := hid (by have := hR2.wd (cap := D.length) (by omega); rw [hdl] at this; exact this)
        have hlen2 : (downL s D).length ≤ 1099511627776 := by omega
        clear hR2 hdl
        go_wp2_with fail
        refine (btrim _ _ _ W2.out OKN.out hlen2).mono ?_
        rintro e w' ⟨v, rfl, hw, hbl, rfl⟩
        rw [HV.out] at hw
        have HW := hid hw
        clear hw
        go_wp2_with fail
        go_ret
        exact ⟨_, rfl, HW.out, (Fresh.own (Nat.le_refl _)).of hbl, hB.out⟩
end Big
end
section
open Go.RowKit
namespace Big
/-- How many bits a number has. -/
def bl (x : Nat) : Nat := if x = 0 then 0 else Nat.log2 x + 1
theorem bl_lt (x : Nat) : x < 2 ^ bl x := by
  unfold bl
  split
  · rename_i h; subst h; decide
  · exact Nat.lt_log2_self
theorem bl_le {x : Nat} (h : x ≠ 0) : 2 ^ (bl x - 1) ≤ x := by
  unfold bl
  rw [if_neg h, Nat.add_sub_cancel]
  exact Nat.log2_self_le h
theorem bl_of {x k : Nat} (h1 : 2 ^ k ≤ x) (h2 : x < 2 ^ (k + 1)) : bl x = k + 1 := by
  have h0 : x ≠ 0 := by
    have : 0 < 2 ^ k := Nat.pow_pos (by decide)
    omega
  have a1 := bl_lt x
  have a2 := bl_le h0
  have b1 : 2 ^ (bl x - 1) < 2 ^ (k + 1) := Nat.lt_of_le_of_lt a2 h2
  have b2 : 2 ^ k < 2 ^ bl x := Nat.lt_of_le_of_lt h1 a1
  have c1 := (Nat.pow_lt_pow_iff_right (by decide : 1 < 2)).1 b1
  have c2 := (Nat.pow_lt_pow_iff_right (by decide : 1 < 2)).1 b2
  omega
theorem bl_shift (x k : Nat) (h : 2 ^ k ≤ x) : bl x = k + bl (x / 2 ^ k) := by
  have hp : 0 < 2 ^ k := Nat.pow_pos (by decide)
  have h1 : 1 ≤ x / 2 ^ k := (Nat.one_le_div_iff hp).2 h
  obtain ⟨y, hy⟩ : ∃ y, y = x / 2 ^ k := ⟨_, rfl⟩
  rw [← hy] at h1 ⊢
  have hy0 : y ≠ 0 := by omega
  have a1 := bl_lt y
  have a2 := bl_le hy0
  obtain ⟨j, hj⟩ : ∃ j, bl y = j + 1 := by
    unfold bl
    rw [if_neg hy0]
    exact ⟨_, rfl⟩
  rw [hj] at a1 a2 ⊢
  rw [Nat.add_sub_cancel] at a2
  have e := Nat.div_add_mod x (2 ^ k)
  have m := Nat.mod_lt x hp
  rw [← hy] at e
  rw [← Nat.add_assoc]
  refine bl_of ?_ ?_
  · rw [Nat.pow_add]
    have := Nat.mul_le_mul_left (2 ^ k) a2
    omega
  · rw [show k + j + 1 = k + (j + 1) by omega, Nat.pow_add]
    have := Nat.mul_le_mul_left (2 ^ k) (show y + 1 ≤ 2 ^ (j + 1) from a1)
    rw [Nat.mul_add, Nat.mul_one] at this
    omega
theorem bl_words {n : Nat} (h : n ≠ 0) {x : Nat} (hx : (words n)[(words n).length - 1]? = some x) : bl n = 32 * ((words n).length - 1) + bl x := by
  obtain ⟨k, hk⟩ : ∃ k, k = (words n).length - 1 := ⟨_, rfl⟩
  have hl : (words n).length ≠ 0 := fun e => h (words_len0.1 e)
  have h1 := words_top h
  have h2 := val_take hx
  rw [show (words n).length - 1 + 1 = (words n).length by omega, List.take_length, val_words] at h2
  have h3 := val_lt ((words_ok n).take ((words n).length - 1))
  rw [List.length_take, Nat.min_eq_left (by omega)] at h3
  rw [← hk] at h1 h2 h3 ⊢
  have e : (2 : Nat) ^ (32 * k) = 4294967296 ^ k := by rw [Nat.pow_mul]
  have hs := bl_shift n (32 * k) (by rw [e]; exact h1)
  rw [hs, e]
  congr 2
  rw [h2, Nat.add_mul_div_left _ _ (Nat.pow_pos (by decide)), Nat.div_eq_of_lt h3, Nat.zero_add]
theorem bl_le8 {z : Nat} (h : z < 256) : bl z ≤ 8 := by
  rcases Nat.eq_zero_or_pos z with h0 | h0
  · subst h0; decide
  · have h1 := bl_le (show z ≠ 0 by omega)
    have h9 : 2 ^ (bl z - 1) < 2 ^ 8 := Nat.lt_of_le_of_lt h1 (by simpa using h)
    have := (Nat.pow_lt_pow_iff_right (by decide : 1 < 2)).1 h9
    omega
theorem bl_bit (x : Nat) : Go.bitLen x = bl x := rfl
def Len32 (x : Nat) : Prop := ∀ w : World, Calls Tryz.prog 141 #[.int .u32 x] w fun e w' => e = .returned (.int .i64 (bl x)) ∧ w = w'
set_option maxRecDepth 100000 in
set_option maxHeartbeats 4000000 in
theorem len32_3 (x y z : Nat) (h1 : 65536 ≤ x) (hx : x < 4294967296) (hy : y = x / 65536) (h2 : 256 ≤ y) (hz : z = y / 256) : Len32 x := by
  have h1' : (65536 : Int) ≤ (x : Int) := by omega
  have s1 := bl_shift x 16 (by simpa using h1)
  have d1 : (x : Int) / 65536 = (y : Int) := by omega
  rw [show (2 : Nat) ^ 16 = 65536 by decide, ← hy] at s1
  have hyB : (y : Int) < 65536 := by omega
  have hy0 : (0 : Int) ≤ (y : Int) := by omega
  have h2' : (256 : Int) ≤ (y : Int) := by omega
  have s2 := bl_shift y 8 (by simpa using h2)
  have d2 : (y : Int) / 256 = (z : Int) := by omega
  rw [show (2 : Nat) ^ 8 = 256 by decide, ← hz] at s2
  have hzB : z < 256 := by omega
  have e : bl x = 24 + bl z := by omega
  clear s1 s2 hy h1 h2
  intro w
  have hz0 : (0 : Int) ≤ (z : Int) := by omega
  have hz1 : (z : Int) < 256 := by omega
  have c1 : IntKind.u8.wrap (z : Int) = (z : Int) := by rw [IntKind.wrap_u8]; omega
  have hbz := bl_le8 hzB
  try clear hz
  go_enter Tryz.func141, Tryz.ntmps141
  go_wp2_with fail
  go_ret
  refine ⟨congrArg Ending.returned (congrArg (Value.int IntKind.i64) ?_), rfl⟩
  rw [len8tab_get, bl_bit]
  unfold wrap64
  omega
set_option maxRecDepth 100000 in
set_option maxHeartbeats 4000000 in
theorem len32_2 (x z : Nat) (h1 : 65536 ≤ x) (hx : x < 4294967296) (hz : z = x / 65536) (h2 : z < 256) : Len32 x := by
  have h1' : (65536 : Int) ≤ (x : Int) := by omega
  have s1 := bl_shift x 16 (by simpa using h1)
  have d1 : (x : Int) / 65536 = (z : Int) := by omega
  rw [show (2 : Nat) ^ 16 = 65536 by decide, ← hz] at s1
  have hzB : z < 256 := by omega
  have h2' : ¬ (256 : Int) ≤ (z : Int) := by omega
  clear h1
  intro w
  have hz0 : (0 : Int) ≤ (z : Int) := by omega
  have hz1 : (z : Int) < 256 := by omega
  have c1 : IntKind.u8.wrap (z : Int) = (z : Int) := by rw [IntKind.wrap_u8]; omega
  have hbz := bl_le8 hzB
  try clear hz
  go_enter Tryz.func141, Tryz.ntmps141
  go_wp2_with fail
  go_ret
  refine ⟨congrArg Ending.returned (congrArg (Value.int IntKind.i64) ?_), rfl⟩
  rw [len8tab_get, bl_bit]
  unfold wrap64
  omega
set_option maxRecDepth 100000 in
set_option maxHeartbeats 4000000 in
theorem len32_1 (x z : Nat) (h1 : x < 65536) (h2 : 256 ≤ x) (hz : z = x / 256) : Len32 x := by
  have h1' : ¬ (65536 : Int) ≤ (x : Int) := by omega
  have h2' : (256 : Int) ≤ (x : Int) := by omega
  have s2 := bl_shift x 8 (by simpa using h2)
  have d2 : (x : Int) / 256 = (z : Int) := by omega
  rw [show (2 : Nat) ^ 8 = 256 by decide, ← hz] at s2
  have hzB : z < 256 := by omega
  clear h1 h2
  intro w
  have hz0 : (0 : Int) ≤ (z : Int) := by omega
  have hz1 : (z : Int) < 256 := by omega
  have c1 : IntKind.u8.wrap (z : Int) = (z : Int) := by rw [IntKind.wrap_u8]; omega
  have hbz := bl_le8 hzB
  try clear hz
  go_enter Tryz.func141, Tryz.ntmps141
  go_wp2_with fail
  go_ret
  refine ⟨congrArg Ending.returned (congrArg (Value.int IntKind.i64) ?_), rfl⟩
  rw [len8tab_get, bl_bit]
  unfold wrap64
  omega
set_option maxRecDepth 100000 in
set_option maxHeartbeats 4000000 in
theorem len32_0 (z : Nat) (hzB : z < 256) : Len32 z := by
  have h1' : ¬ (65536 : Int) ≤ (z : Int) := by omega
  have h2' : ¬ (256 : Int) ≤ (z : Int) := by omega
  intro w
  have hz0 : (0 : Int) ≤ (z : Int) := by omega
  have hz1 : (z : Int) < 256 := by omega
  have c1 : IntKind.u8.wrap (z : Int) = (z : Int) := by rw [IntKind.wrap_u8]; omega
  have hbz := bl_le8 hzB
  try clear hz
  go_enter Tryz.func141, Tryz.ntmps141
  go_wp2_with fail
  go_ret
  refine ⟨congrArg Ending.returned (congrArg (Value.int IntKind.i64) ?_), rfl⟩
  rw [len8tab_get, bl_bit]
  unfold wrap64
  omega
theorem len32 (x : Nat) (hx : x < 4294967296) : Len32 x := by
  by_cases h1 : 65536 ≤ x
  · by_cases h2 : 256 ≤ x / 65536
    · exact len32_3 x _ _ h1 hx rfl h2 rfl
    · exact len32_2 x _ h1 hx rfl (by omega)
  · by_cases h2 : 256 ≤ x
    · exact len32_1 x _ (by omega) h2 rfl
    · exact len32_0 x (by omega)

end Big
end
section
open Go.RowKit
namespace Big
theorem words_1 {n x : Nat} (h : words n = [x]) : n = x := by have := val_words n; rw [h] at this; simpa [val] using this.symm
theorem words_2 {n x y : Nat} {l : List Nat} (h : words n = x :: y :: l) : n % 18446744073709551616 = y * 4294967296 + x ∧ x < 4294967296 ∧ y < 4294967296 := by
  have := val_words n
  have ok := words_ok n
  rw [h] at this ok
  have a := ok.head
  have b := ok.tail.head
  simp only [val] at this
  refine ⟨?_, a, b⟩
  generalize val l = V at this
  omega
theorem or64 (a b : Nat) (ha : a < 18446744073709551616) (hb : b < 18446744073709551616) : bits BinOp.or IntKind.u64 (a : Int) (b : Int) = ((a ||| b : Nat) : Int) := u64_or_nat a b ha hb
theorem or_high (x y : Nat) (hx : x < 4294967296) : y * 4294967296 ||| x = y * 4294967296 + x := by
  have := Nat.two_pow_add_eq_or_of_lt (i := 32) (show x < 2 ^ 32 from hx) y
  rw [Nat.mul_comm y]
  exact this.symm
theorem or_high' (x y : Nat) (hx : x < 4294967296) : 4294967296 * y ||| x = y * 4294967296 + x := by rw [Nat.mul_comm]; exact or_high x y hx
set_option maxRecDepth 100000 in
set_option maxHeartbeats 4000000 in
theorem btoUint (va : Value) (n : Nat) (w : World) (ha : Wd w va (words n)) (hn : (words n).length ≤ 1099511627776) :
    Calls Tryz.prog 134 #[va] w fun e w' => e = .returned (.int .u64 ((n % 18446744073709551616 : Nat) : Int)) ∧ w' = w := by
  obtain ⟨a, ca, rfl, hca, hce⟩ := ha.form
  clear ha
  have w0 := @words_len0 n
  have wk := words_ok n
  have w1 : ∀ x, words n = [x] → n = x := fun x => words_1
  have w2 : ∀ x y l, words n = x :: y :: l → n % 18446744073709551616 = y * 4294967296 + x ∧ x < 4294967296 ∧ y < 4294967296 := fun x y l => words_2
  obtain ⟨R, hR⟩ : ∃ R, R = n % 18446744073709551616 := ⟨_, rfl⟩
  rw [← hR] at w2 ⊢
  have HR := hid hR
  clear hR
  generalize words n = l at hca hce hn w0 wk w1 w2 ⊢
  match l, hca, hce, hn, w0, wk, w1, w2 with
  | [], hca, hce, hn, w0, wk, w1, w2 =>
    have hR0 : R = 0 := by rw [HR.out, w0.1 rfl]
    have HR0 := hid hR0
    clear hR0
    go_enter Tryz.func134, Tryz.ntmps134
    go_wp2_with fail
    go_ret
    exact ⟨by rw [HR0.out]; rfl, rfl⟩
  | [x], hca, hce, hn, w0, wk, w1, w2 =>
    obtain ⟨g, off, rfl, hg, hx⟩ := hce (by simp)
    have c0 : w.cell? ⟨g, off, none⟩ = some (.int .u32 x) := hx 0 x rfl
    have hxB := wk.head
    haveI : Has w g := ⟨hg⟩
    have hR0 : R = x := by rw [HR.out, w1 _ rfl]; omega
    have HR0 := hid hR0
    have e1 : IntKind.u64.wrap (x : Int) = (x : Int) := by rw [IntKind.wrap_u64]; omega
    have e2 : bits BinOp.or IntKind.u64 (0 : Int) (x : Int) = (x : Int) := by
      have := or64 0 x (by decide) (by omega)
      simpa using this
    clear hR0 hx hce w0 wk w1 w2
    go_enter Tryz.func134, Tryz.ntmps134
    go_wp2_with fail
    go_ret
    exact ⟨by rw [HR0.out]; rfl, rfl⟩
  | x :: y :: l, hca, hce, hn, w0, wk, w1, w2 =>
    obtain ⟨g, off, rfl, hg, hx⟩ := hce (by simp)
    have c0 : w.cell? ⟨g, off, none⟩ = some (.int .u32 x) := hx 0 x rfl
    have c1 := hx 1 y rfl
    obtain ⟨hR0, hxB, hyB⟩ := w2 _ _ _ rfl
    haveI : Has w g := ⟨hg⟩
    have HR0 := hid hR0
    obtain ⟨z, hz⟩ : ∃ z, z = y * 4294967296 := ⟨_, rfl⟩
    have e1 : IntKind.u64.wrap (x : Int) = (x : Int) := by rw [IntKind.wrap_u64]; omega
    have e3 : IntKind.u64.wrap (y : Int) = (y : Int) := by rw [IntKind.wrap_u64]; omega
    have e4 : IntKind.u64.wrap ((y : Int) * 4294967296) = (z : Int) := by rw [IntKind.wrap_u64]; omega
    have e5 : (y : Int) * 4294967296 = (z : Int) := by omega
    have e2 : bits BinOp.or IntKind.u64 (z : Int) (x : Int) = (R : Int) := by
      have := or64 z x (by omega) (by omega)
      rw [this, hz, or_high x y hxB, ← hR0]
    obtain ⟨k, hk⟩ : ∃ k, k = (x :: y :: l).length := ⟨_, rfl⟩
    rw [← hk] at hca hn ⊢
    have hk2 : 1 < (k : Int) := by rw [hk]; simp; omega
    have hk0 : 0 < (k : Int) := by omega
    clear hR0 hx hce w0 wk w1 w2 hk hz
    go_enter Tryz.func134, Tryz.ntmps134
    go_wp2_with fail
    go_ret
    exact ⟨rfl, rfl⟩
set_option maxRecDepth 100000 in
set_option maxHeartbeats 4000000 in
theorem lead32 (x : Nat) (hx : x < 4294967296) (w : World) : Calls Tryz.prog 143 #[.int .u32 x] w fun e w' => e = .returned (.int .i64 ((32 - bl x : Nat) : Int)) ∧ w' = w := by
  have hb : bl x ≤ 32 := by
    rcases Nat.eq_zero_or_pos x with h0 | h0
    · subst h0; decide
    · have h1 := bl_le (show x ≠ 0 by omega)
      have h9 : 2 ^ (bl x - 1) < 2 ^ 32 := Nat.lt_of_le_of_lt h1 (by simpa using hx)
      have := (Nat.pow_lt_pow_iff_right (by decide : 1 < 2)).1 h9
      omega
  have e : (32 : Int) - (bl x : Int) = ((32 - bl x : Nat) : Int) := by omega
  have L : ∀ w : World, Calls Tryz.prog 141 #[.int .u32 x] w fun e w' => e = .returned (.int .i64 (bl x)) ∧ w = w' := len32 x hx
  generalize bl x = b at hb e L ⊢
  have E := hid e
  clear e
  go_enter Tryz.func143, Tryz.ntmps143
  go_wp2_with (go_at_call 141; refine (L _).mono ?_; rintro e w' ⟨rfl, rfl⟩)
  go_ret
  exact ⟨by rw [← E.out]; rfl, rfl⟩
theorem bl_le32 {x : Nat} (hx : x < 4294967296) : bl x ≤ 32 := by
  rcases Nat.eq_zero_or_pos x with h0 | h0
  · subst h0; decide
  · have h1 := bl_le (show x ≠ 0 by omega)
    have h9 : 2 ^ (bl x - 1) < 2 ^ 32 := Nat.lt_of_le_of_lt h1 (by simpa using hx)
    have := (Nat.pow_lt_pow_iff_right (by decide : 1 < 2)).1 h9
    omega
set_option maxRecDepth 100000 in
set_option maxHeartbeats 4000000 in
theorem bbitLen (va : Value) (n : Nat) (w : World) (ha : Wd w va (words n)) (hn : (words n).length ≤ 1099511627776) :
    Calls Tryz.prog 130 #[va] w fun e w' => e = .returned (.int .i64 (bl n)) ∧ w' = w := by
  obtain ⟨a, ca, rfl, hca, hce⟩ := ha.form
  clear ha
  have w0 := @words_len0 n
  have wk := words_ok n
  have wb := @bl_words n
  generalize words n = l at hca hce hn w0 wk wb ⊢
  by_cases hl : l.length = 0
  · have hn0 := w0.1 hl
    have HN := hid hn0
    clear hn0
    go_enter Tryz.func130, Tryz.ntmps130
    go_wp2_with fail
    go_ret
    exact ⟨by rw [HN.out]; rfl, rfl⟩
  · obtain ⟨k, hk⟩ : ∃ k, l.length = k + 1 := ⟨l.length - 1, by omega⟩
    obtain ⟨g, off, rfl, hg, hx⟩ := hce (by omega)
    have hx0 : l[k]? = some l[k] := List.getElem?_eq_getElem (by omega)
    obtain ⟨x, hxx⟩ : ∃ x, x = l[k] := ⟨_, rfl⟩
    rw [← hxx] at hx0
    have hxB := wk.get hx0
    have c0 := hx k x hx0
    haveI : Has w g := ⟨hg⟩
    have hn0 : n ≠ 0 := fun e => hl (w0.2 e)
    have hb := wb hn0 (x := x) (by rw [hk, Nat.add_sub_cancel]; exact hx0)
    rw [hk, Nat.add_sub_cancel] at hb
    have hbx := bl_le32 hxB
    have L : ∀ w : World, Calls Tryz.prog 141 #[.int .u32 x] w fun e w' => e = .returned (.int .i64 (bl x)) ∧ w = w' := len32 x hxB
    generalize bl x = b at hb hbx L
    have HB := hid hb
    rw [hk] at hca hn ⊢
    have e1 : ((k + 1 : Nat) : Int) - 1 = (k : Int) := by omega
    have hl1 : (((k + 1 : Nat) : Int) == 0) = false := beq_eq_false_iff_ne.2 (by omega)
    have hl2 : ((k : Int) + 1 == 0) = false := beq_eq_false_iff_ne.2 (by omega)
    clear hb hxx hx0 hx hce w0 wk wb hn0 hl hk
    go_enter Tryz.func130, Tryz.ntmps130
    go_wp2_with (go_at_call 141; refine (L _).mono ?_; rintro e w' ⟨rfl, rfl⟩)
    go_ret
    exact ⟨by rw [HB.out]; simp, rfl⟩
/-- A table of the library's, as it is laid. -/
def Vr (w : World) : Prop := 1 < w.heap.size ∧ ∀ j, j < 32 → w.cell? ⟨1, j, none⟩ = some (.int .u8 (Lib.deBruijn32tab.getD j 0))
theorem Vr.below {w w' : World} (h : Vr w) (b : Below w.heap.size w w') : Vr w' :=
  ⟨Nat.lt_of_lt_of_le h.1 b.size, fun j hj => by rw [← h.2 j hj]; exact World.cell?_of_block (w := w) (b.block 1 h.1)⟩
theorem Vr.keep {w w' : World} {B : Nat} {S : List Nat} (h : Vr w) (k : Keeps B S w w') (hB : 1 < B) (hS : 1 ∉ S) : Vr w' :=
  ⟨Nat.lt_of_lt_of_le h.1 k.size, fun j hj => by rw [← h.2 j hj]; exact World.cell?_of_block (w := w) (k.block 1 hB hS)⟩
theorem k3cast {pk idx : Nat} (h : idx = pk * 125613361 % 4294967296 / 134217728) : (pk : Int) * 125613361 % 4294967296 / 134217728 = (idx : Int) := by
  obtain ⟨t, ht⟩ : ∃ t, t = pk * 125613361 := ⟨_, rfl⟩
  have h2 : (pk : Int) * 125613361 = (t : Int) := by rw [ht]; exact (Int.natCast_mul pk 125613361).symm
  rw [h2, h, ← ht]
  omega
set_option maxRecDepth 100000 in
set_option maxHeartbeats 4000000 in
theorem tz32 (x : Nat) (hx : x < 4294967296) (h0 : x ≠ 0) (w : World) (hv : Vr w) : Calls Tryz.prog 140 #[.int .u32 x] w fun e w' => e = .returned (.int .i64 (Lib.ctz 32 x)) ∧ w' = w := by
  obtain ⟨hlow, hk⟩ := Lib.lowest_bit 32 x h0 hx
  obtain ⟨hi, htab⟩ := Lib.deBruijn32_at _ hk
  have hcell := hv.2 _ hi
  rw [htab] at hcell
  have h0' : ((x : Int) == 0) = false := beq_eq_false_iff_ne.2 (by omega)
  generalize Lib.ctz 32 x = k at hlow hk hi hcell ⊢
  obtain ⟨pk, hpk⟩ : ∃ pk, pk = 2 ^ k := ⟨_, rfl⟩
  rw [← hpk] at hi hcell
  obtain ⟨idx, hidx⟩ : ∃ idx, idx = pk * 125613361 % 4294967296 / 134217728 := ⟨_, rfl⟩
  rw [← hidx] at hi hcell
  have k3 : (pk : Int) * 125613361 % 4294967296 / 134217728 = (idx : Int) := k3cast hidx
  have key : bits BinOp.and IntKind.u32 (x : Int) (-(x : Int) % 4294967296) = (pk : Int) := by
    have e1 : -(x : Int) % 4294967296 = ((4294967296 - x : Nat) : Int) := by omega
    rw [e1, u32_and_nat x _ hx (by omega), hpk]
    exact congrArg _ hlow
  have key2 : bits BinOp.and IntKind.u32 (x : Int) (IntKind.u32.wrap (-(x : Int))) = (pk : Int) := by rw [IntKind.wrap_u32]; exact key
  have k4 : IntKind.u32.wrap ((pk : Int) * 125613361) / 134217728 = (idx : Int) := by rw [IntKind.wrap_u32]; exact k3
  haveI : Has w 1 := ⟨hv.1⟩
  clear hpk hidx
  clear hlow hv htab
  go_enter Tryz.func140, Tryz.ntmps140
  go_wp2_with (first | simp only [key] | simp only [key2] | simp only [k3] | simp only [k4])
  go_ret
  exact ⟨rfl, rfl⟩

end Big
end
section
open Go.RowKit
namespace Big
/-- How often two goes into a number (nought: none). -/
def tz (n : Nat) : Nat := if n = 0 then 0 else Lib.ctzFrom (bl n) n
theorem tz_spec {n : Nat} (h : n ≠ 0) : ∃ q, n = 2 ^ tz n * (2 * q + 1) := by
  obtain ⟨m, hm, -⟩ := Lib.ctzFrom_spec (bl n) n (by omega) (bl_lt n)
  unfold tz
  rw [if_neg h]
  exact ⟨m, hm⟩
theorem tz_le {a b p q : Nat} (h : 2 ^ a * (2 * p + 1) = 2 ^ b * (2 * q + 1)) : a ≤ b := by
  rcases Nat.lt_or_ge b a with h1 | h1
  · exfalso
    obtain ⟨d, rfl⟩ : ∃ d, a = b + (d + 1) := ⟨a - b - 1, by omega⟩
    rw [Nat.pow_add, Nat.mul_assoc] at h
    have h2 := Nat.eq_of_mul_eq_mul_left (Nat.pow_pos (by decide)) h
    rw [Nat.pow_succ, Nat.mul_comm (2 ^ d) 2, Nat.mul_assoc] at h2
    omega
  · exact h1
theorem tz_of {n k q : Nat} (h : n = 2 ^ k * (2 * q + 1)) : tz n = k := by
  have h0 : n ≠ 0 := by
    have : 0 < 2 ^ k := Nat.pow_pos (by decide)
    have := Nat.mul_pos this (show 0 < 2 * q + 1 by omega)
    omega
  obtain ⟨p, hp⟩ := tz_spec h0
  have e := hp.symm.trans h
  exact Nat.le_antisymm (tz_le e) (tz_le e.symm)
theorem ctz32 {x : Nat} (h : x ≠ 0) (hx : x < 4294967296) : Lib.ctz 32 x < 32 ∧ ∃ q, x = 2 ^ Lib.ctz 32 x * (2 * q + 1) := by
  obtain ⟨m, hm, hk⟩ := Lib.ctzFrom_spec 32 x (by omega) (by simpa using hx)
  have e : Lib.ctz 32 x = Lib.ctzFrom 32 x := by simp [Lib.ctz, h]
  rw [e]
  exact ⟨hk, m, hm⟩
theorem tz_at {n k x : Nat} (hx : (words n)[k]? = some x) (h0 : val ((words n).take k) = 0) (hx0 : x ≠ 0) : tz n = 32 * k + Lib.ctz 32 x := by
  have hxB := (words_ok n).get hx
  obtain ⟨hc, q, hq⟩ := ctz32 hx0 hxB
  have a := val_append ((words n).take k) ((words n).drop k)
  have hk : k < (words n).length := by
    rcases Nat.lt_or_ge k (words n).length with h1 | h1
    · exact h1
    · rw [List.getElem?_eq_none h1] at hx; cases hx
  rw [List.take_append_drop, val_words, h0, List.length_take, Nat.min_eq_left (by omega), val_drop hx, Nat.zero_add] at a
  generalize Lib.ctz 32 x = c at hc hq ⊢
  generalize val ((words n).drop (k + 1)) = V at a
  refine tz_of (q := q + 2 ^ (31 - c) * V) ?_
  have e1 : (4294967296 : Nat) ^ k = 2 ^ (32 * k) := by rw [Nat.pow_mul]
  have e2 : (4294967296 : Nat) = 2 ^ c * (2 * 2 ^ (31 - c)) := by
    rw [← Nat.pow_succ', ← Nat.pow_add, show c + (31 - c).succ = 32 by omega]
  have e3 : x + 4294967296 * V = 2 ^ c * (2 * (q + 2 ^ (31 - c) * V) + 1) := by
    rw [hq]
    conv => lhs; rw [e2]
    rw [Nat.mul_assoc, ← Nat.mul_add]
    congr 1
    rw [Nat.mul_add, Nat.mul_assoc]
    omega
  rw [a, e3, e1, ← Nat.mul_assoc, ← Nat.pow_add]
theorem val_0 {l : List Nat} (h : ∀ i, i < l.length → ∀ x, l[i]? = some x → x = 0) : val l = 0 := by
  have := val_cut (l := l) (k := 0) (fun i _ x hx => h i (by
    rcases Nat.lt_or_ge i l.length with h1 | h1
    · exact h1
    · rw [List.getElem?_eq_none h1] at hx; cases hx) x hx)
  rw [← this]; rfl
theorem mul_small_fin {o : List Nat} {n m c cy : Nat} (hm : 0 < m) (hol : o.length = (words n).length) (ho : Wok o) (hcy : cy < 4294967296) (h : val o + 4294967296 ^ (words n).length * cy = n * m + c) :
    (cy = 0 → o = words (n * m + c)) ∧ (cy ≠ 0 → o ++ [cy] = words (n * m + c)) ∧ val (o ++ [cy]) = n * m + c := by
  have e : val [cy] = cy := by simp [val]
  have hv : val (o ++ [cy]) = n * m + c := by rw [val_append, e, hol, h]
  refine ⟨fun h0 => ?_, fun h0 => ?_, hv⟩
  · rw [h0, Nat.mul_zero, Nat.add_zero] at h
    rw [← h]
    refine (words_val ho (fun x hx hx0 => ?_)).symm
    rw [hx0] at hx
    have hn : n ≠ 0 := fun e0 => by
      rw [e0, words_0] at hol
      have : o = [] := List.length_eq_zero_iff.1 hol
      rw [this] at hx; cases hx
    have ht := words_top hn
    rw [List.getLast?_eq_getElem?] at hx
    have hl : o.length - 1 < o.length := by
      rcases Nat.lt_or_ge (o.length - 1) o.length with h1 | h1
      · exact h1
      · rw [List.getElem?_eq_none h1] at hx; cases hx
    have h1 := val_take hx
    rw [show o.length - 1 + 1 = o.length by omega, List.take_length, Nat.mul_zero, Nat.add_zero] at h1
    have h2 := val_lt (ho.take (o.length - 1))
    rw [← h1, List.length_take, Nat.min_eq_left (by omega), h, hol] at h2
    have h3 : n ≤ n * m := Nat.le_mul_of_pos_right n hm
    omega
  · rw [← hv]
    refine (words_val (ho.append (Wok.cons hcy Wok.nil)) (fun x hx => ?_)).symm
    simp at hx
    omega
set_option maxRecDepth 100000 in
set_option maxHeartbeats 4000000 in
theorem bzeros (va : Value) (n : Nat) (w : World) (ha : Wd w va (words n)) (hn : (words n).length ≤ 1099511627776) (hv : Vr w) :
    Calls Tryz.prog 129 #[va] w fun e w' => e = .returned (.int .i64 (tz n)) ∧ w' = w := by
  obtain ⟨a, ca, rfl, hca, hce⟩ := ha.form
  clear ha
  have wk := words_ok n
  have wz := @tz_at n
  have hnn := val_words n
  generalize words n = l at hca hce hn wk wz hnn ⊢
  have HA := hid hce
  have HZ : Hid (∀ k x, l[k]? = some x → val (l.take k) = 0 → x ≠ 0 → tz n = 32 * k + Lib.ctz 32 x) := hid (fun k x => wz)
  have HN := hid hnn
  have WK := hid wk
  have VR := hid hv
  clear hce wz hnn wk hv
  go_enter Tryz.func129, Tryz.ntmps129
  go_wp2_with fail
  go_loop [3] (fun s3 => ∃ k : Nat, s3 = .int .i64 k ∧ k ≤ l.length ∧ Hid (∀ i, i < k → ∀ x, l[i]? = some x → x = 0)) (fun s3 => l.length - (intOf s3).toNat)
  case atStart => exact ⟨0, rfl, Nat.zero_le _, hid (fun i hi => absurd hi (Nat.not_lt_zero _))⟩
  case round =>
    obtain ⟨k, rfl, hk, h0⟩ := hrel
    by_cases hkl : k < l.length
    · obtain ⟨g, off, rfl, hg, hxa⟩ := HA.out (by omega)
      have hx : l[k]? = some l[k] := List.getElem?_eq_getElem hkl
      obtain ⟨x, hxx⟩ : ∃ x, x = l[k] := ⟨_, rfl⟩
      rw [← hxx] at hx
      have hxB := WK.out.get hx
      have c0 := hxa k x hx
      haveI : Has w g := ⟨hg⟩
      have hkl' : (k : Int) < (l.length : Int) := by omega
      have hk0 : (0 : Int) ≤ (k : Int) := by omega
      by_cases hx0 : x = 0
      · subst hx0
        have H1 : Hid (∀ i, i < k + 1 → ∀ x, l[i]? = some x → x = 0) := hid (fun i hi y hy => by
          rcases Nat.lt_or_eq_of_le (Nat.le_of_lt_succ hi) with h | rfl
          · exact h0.out i h y hy
          · rw [hx] at hy; exact (Option.some.inj hy).symm)
        clear hx hxx hxa h0
        go_wp2_with fail
        exact ⟨⟨k + 1, by rfl, by omega, H1⟩, by simp [intOf]; omega⟩
      · have hxp : ((x : Int) == 0) = false := beq_eq_false_iff_ne.2 (by omega)
        have ht := HZ.out k x hx (val_0 (fun i hi y hy => by
          rw [List.length_take] at hi
          rw [List.getElem?_take_of_lt (by omega)] at hy
          exact h0.out i (by omega) y hy)) hx0
        have hne : ((k : Int) == (l.length : Int)) = false := beq_eq_false_iff_ne.2 (by omega)
        have HT := hid ht
        have T := fun w hv => tz32 x hxB hx0 w hv
        have hcB := (ctz32 hx0 hxB).1
        generalize Lib.ctz 32 x = c at HT T hcB
        clear ht hx hxx hxa h0
        go_wp2_with (go_at_call 140; refine (T _ VR.out).mono ?_; rintro e w' ⟨rfl, hw⟩; obtain rfl := hw.symm)
        go_ret
        exact ⟨by rw [HT.out]; simp, rfl⟩
    · obtain rfl : k = l.length := by omega
      have hn0 : tz n = 0 := by
        have : n = 0 := by rw [← HN.out]; exact val_0 h0.out
        rw [this]; rfl
      have HT := hid hn0
      clear hn0
      go_wp2_with fail
      go_ret
      exact ⟨by rw [HT.out]; rfl, rfl⟩
/-- The law of append at a plain region, without letters for addresses. -/
theorem list_app {ops : Array Oper} {rest : List Oper} {o : Oper} {a : Act} {w : World} {Q : Exit → Act → World → Prop} (hgd : o.guard = none) (s x : Operand) (t : TypeId)
    (ho : o.op = .call { callee := .builtin .append, args := #[s, x], argTypes := #[t, t] }) (base : Nat) (e : TypeId) (i : TypeInfo) (z : Value) (size bytes : Nat) (ht : Tryz.prog.underlying t = some (.slice e)) (hi : Tryz.prog.info? e = some i) (hz : i.zero = some z)
    (hsize : i.size = size) (hby : i.bytes = bytes) (hzs : z.cells.size = size) (hsz : 0 < size) (v : Value) (n : Nat) (xs : List Value) (hs : a.eval s = v) (hown : w.ownsRow base e size v n xs)
    (news : List Value) (hx : ∃ ad c, a.eval x = .slice (some ad) 1 c ∧ ∀ j u, news[j]? = some u → w.cell? (ad.add j) = some u) (hl : news.length = size) (h1 : ∀ u ∈ news, u.oneCell' = true)
    (h63 : n + 1 ≤ maxLen) (hbytes : (n + 1) * bytes ≤ 140737488355328) (hbase : base ≤ w.heap.size)
    (h : ∀ g cap w', w'.ownsRow base e size (.slice (some ⟨g, 0, none⟩) (n + 1) cap) (n + 1) (xs ++ news) → w.grownBy w' v.ownBlock → (v.ownBlock = some g ∨ g = w.heap.size) → g < w'.heap.size → wpList Tryz.prog ops Q rest (a.put o.dst (.slice (some ⟨g, 0, none⟩) (n + 1) cap)) w') :
    wpList Tryz.prog ops Q (o :: rest) a w := by
  obtain ⟨ad, c, hx, hn⟩ := hx
  exact wpList_append_lies w hgd s x t ho base e i z size bytes ht hi hz hsize hby hzs hsz v n xs hs hown ad 1 c news hx (by omega) hn h1 (by omega) h63 hbytes hbase _ rfl h
theorem own_grow {w w' : World} {B0 E size n : Nat} {sv : Value} {xs : List Value} (h : w.ownsRow B0 E size sv n xs) (hB : B0 ≤ w.heap.size) (hg : w.grownBy w' sv.ownBlock) : Below B0 w w' := by
  refine Keeps.below ⟨hg.os, hg.tape, hg.output, hg.size, fun k hk _ => hg.block k (by omega) (fun e => ?_)⟩
  rcases h.2 with ⟨rfl, -⟩ | ⟨g, cap, cur, rfl, h1, -⟩
  · cases e
  · simp only [Value.ownBlock, Option.some.injEq] at e
    omega
def u32s (L : List Nat) : List Value := L.map fun x : Nat => Value.int .u32 x
/-- A row of words of one's own, with room behind. -/
def Ow (w : World) (B : Nat) (v : Value) (L : List Nat) : Prop := w.ownsRow B 129 1 v L.length (u32s L)
theorem u32s_get (L : List Nat) (i : Nat) : (u32s L)[i]? = (L[i]?).map fun x : Nat => Value.int .u32 x := by simp [u32s]
theorem u32s_len (L : List Nat) : (u32s L).length = L.length := by simp [u32s]
theorem Ow.nil (w : World) (B : Nat) : Ow w B (.slice none 0 0) [] := ⟨rfl, .inl ⟨rfl, rfl⟩⟩
theorem Ow.wd {w : World} {B : Nat} {v : Value} {L : List Nat} (h : Ow w B v L) : Wd w v L ∧ Fresh B v := by
  rcases h.2 with ⟨rfl, h0⟩ | ⟨g, cap, cur, rfl, hB, hb, h1, h2, h3, h4⟩
  · exact ⟨.inl ⟨rfl, List.length_eq_zero_iff.1 h0⟩, Fresh.nil _⟩
  · refine ⟨.inr ⟨g, 0, cap, cur, rfl, hb, h1, fun i x hx => ?_⟩, Fresh.own hB⟩
    have := congrArg (fun t => t[i]?) h4
    simp only [u32s_get, hx, Option.map_some] at this
    rw [Nat.mul_one, List.getElem?_take] at this
    split at this
    · rw [Array.getElem?_toList] at this
      rw [Nat.zero_add, this]
    · cases this
theorem Ow.set {w : World} {B g cap : Nat} {n : Nat} {L : List Nat} (h : Ow w B (.slice (some ⟨g, 0, none⟩) n cap) L) (i x : Nat) (hi : i < L.length) : Ow (w.setCell ⟨g, i, none⟩ (.int .u32 x)) B (.slice (some ⟨g, 0, none⟩) n cap) (L.set i x) := by
  rcases h.2 with ⟨h0, -⟩ | ⟨k, c, cur, he, hB, hb, h1, h2, h3, h4⟩
  · cases h0
  · simp only [Value.slice.injEq, Option.some.injEq, Addr.mk.injEq] at he
    obtain ⟨⟨rfl, -, -⟩, rfl, rfl⟩ := he
    refine ⟨by rw [u32s_len]; omega, .inr ⟨_, _, cur.setIfInBounds i (.int .u32 x), ?_, hB, set_of_block hb i _, by rw [List.length_set]; exact h1, h2, by simpa using h3, ?_⟩⟩
    · rw [List.length_set]
    · rw [List.length_set, Array.toList_setIfInBounds, List.take_set, h4]
      unfold u32s
      rw [List.map_set]
theorem Ow.cell {w : World} {B g cap n : Nat} {L : List Nat} (h : Ow w B (.slice (some ⟨g, 0, none⟩) n cap) L) {i x : Nat} (hx : L[i]? = some x) : w.cell? ⟨g, i, none⟩ = some (.int .u32 x) ∧ w.frozen? ⟨g, i, none⟩ = false ∧ g < w.heap.size := by
  rcases h.2 with ⟨h0, -⟩ | ⟨k, c, cur, he, hB, hb, h1, h2, h3, h4⟩
  · cases h0
  · simp only [Value.slice.injEq, Option.some.injEq, Addr.mk.injEq] at he
    obtain ⟨⟨rfl, -, -⟩, rfl, rfl⟩ := he
    refine ⟨?_, free_of_block hb i, lt_of_block hb⟩
    rw [cell_of_block hb]
    have := congrArg (fun t => t[i]?) h4
    simp only [u32s_get, hx, Option.map_some] at this
    rw [Nat.mul_one, List.getElem?_take] at this
    split at this
    · rw [Array.getElem?_toList] at this
      exact this
    · cases this
theorem set_row (o D : List Nat) (d z : Nat) : (o ++ d :: D).set o.length z = (o ++ [z]) ++ D := by
  rw [List.set_append_right _ _ (Nat.le_refl _), Nat.sub_self, List.set_cons_zero]
  simp
theorem get_row (o D : List Nat) (d : Nat) : (o ++ d :: D)[o.length]? = some d := by
  rw [List.getElem?_append_right (Nat.le_refl _), Nat.sub_self]; rfl
theorem Ow.form {w : World} {B : Nat} {v : Value} {L : List Nat} (h : Ow w B v L) (h0 : 0 < L.length) : ∃ g cap, v = .slice (some ⟨g, 0, none⟩) L.length cap ∧ B ≤ g ∧ L.length ≤ cap := by
  rcases h.2 with ⟨-, h1⟩ | ⟨g, cap, cur, h1, h2, -, h3, -⟩
  · omega
  · exact ⟨g, cap, h1, h2, h3⟩
end Big
end
end Go.Proofs.YtcoillcppmibgaaGreatDoor
