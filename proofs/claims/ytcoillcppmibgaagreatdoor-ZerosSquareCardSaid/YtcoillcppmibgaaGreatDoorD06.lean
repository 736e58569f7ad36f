/- Words in memory: sums, differences. Words in memory: products. Words in memory: by one word. -/
import Derived.Test.YtcoillcppmibgaaGreatDoorD05
import Derived.Laws.BitsAllLaws
set_option linter.unusedSimpArgs false
set_option linter.unusedVariables false
namespace Go.Proofs.YtcoillcppmibgaaGreatDoor
section
open Go.RowKit
namespace Big
theorem set_next (o : List Nat) (n x : Nat) : (o ++ List.replicate (n + 1) 0).set o.length x = (o ++ [x]) ++ List.replicate n 0 := by
  rw [List.replicate_succ, List.set_append_right _ _ (Nat.le_refl _), Nat.sub_self, List.set_cons_zero]
  simp
theorem get_next (o : List Nat) (n : Nat) : (o ++ List.replicate (n + 1) 0)[o.length]? = some 0 := by
  rw [List.getElem?_append_right (Nat.le_refl _), Nat.sub_self, List.replicate_succ]; rfl
theorem take_all {l : List Nat} {j : Nat} (h : l.length ≤ j) : l.take (j + 1) = l.take j := by
  rw [List.take_of_length_le h, List.take_of_length_le (by omega)]
theorem cell_below {w wr : World} {g i : Nat} {v : Value} (h : w.cell? ⟨g, i, none⟩ = some v) (hg : g < w.heap.size) (b : Below w.heap.size w wr) : wr.cell? ⟨g, i, none⟩ = some v := by
  rw [← h]
  exact World.cell?_of_block (w := w) (b.block g hg)
theorem len_mono {m n : Nat} (h : n ≤ m) : (words n).length ≤ (words m).length := by
  rcases Nat.lt_or_ge (words m).length (words n).length with h1 | h1
  · have := words_len_lt h1; omega
  · exact h1
/-- A word less in sixty-four bits. -/
theorem sub64 (x br : Nat) (hx : x < 4294967296) (hb : br ≤ 1) : IntKind.u64.wrap ((x : Int) - (br : Int)) = (((x + 18446744073709551616 - br) % 18446744073709551616 : Nat) : Int) := by rw [IntKind.wrap_u64]; omega
theorem sub64b (x br y : Nat) (hx : x < 4294967296) (hb : br ≤ 1) (hy : y < 4294967296) : IntKind.u64.wrap ((((x + 18446744073709551616 - br) % 18446744073709551616 : Nat) : Int) - (y : Int)) = (((x + 36893488147419103232 - br - y) % 18446744073709551616 : Nat) : Int) := by rw [IntKind.wrap_u64]; omega
theorem sub_low (x br y : Nat) (hx : x < 4294967296) (hb : br ≤ 1) (hy : y < 4294967296) : (x + 36893488147419103232 - br - y) % 18446744073709551616 % 4294967296 = (x + 4294967296 * 2 - br - y) % 4294967296 := by omega
theorem sub_top (x br y : Nat) (hx : x < 4294967296) (hb : br ≤ 1) (hy : y < 4294967296) : (x + 36893488147419103232 - br - y) % 18446744073709551616 / 9223372036854775808 = if br + y ≤ x then 0 else 1 := by
  by_cases h : br + y ≤ x
  · rw [if_pos h]; omega
  · rw [if_neg h]; omega
set_option maxRecDepth 100000 in
set_option maxHeartbeats 8000000 in
theorem badd (va vb : Value) (m n : Nat) (w : World) (ha : Wd w va (words m)) (hb : Wd w vb (words n)) (hm : (words m).length ≤ 549755813888) (hn : (words n).length ≤ 549755813888) :
    Calls Tryz.prog 113 #[va, vb] w fun e w' => ∃ v, e = .returned v ∧ Wd w' v (words (m + n)) ∧ Fresh w.heap.size v ∧ Below w.heap.size w w' := by
  have okm := words_ok m
  have okn := words_ok n
  have vm := val_words m
  have vn := val_words n
  obtain ⟨a, ca, rfl, hca, hce⟩ := ha.form
  obtain ⟨b, cb, rfl, hcb, hcf⟩ := hb.form
  clear ha hb
  generalize words m = l at okm vm hca hce hm ⊢
  generalize words n = k at okn vn hcb hcf hn ⊢
  have HA := hid hce
  have HB := hid hcf
  have OKl := hid okm
  have OKk := hid okn
  clear hce hcf okm okn
  by_cases hl : l.length < k.length
  · have hl' : (l.length : Int) < (k.length : Int) := by omega
    have KL : Hid (l.length ≤ k.length) := hid (by omega)
    have VAL : Hid (val k + val l = m + n) := hid (by omega)
    clear vm vn
    go_enter Tryz.func113, Tryz.ntmps113
    go_wp2_with (at_make; refine make_words _ rfl _ _ rfl _ (k.length + 1) rfl rfl (by first | rfl | omega | simp) (by omega) ?_; intro w1 hro hb1 hlt1)
    have RO := hro
    have B1 := hid hb1
    clear hro hb1
    go_loopw [6, 7, 8] (fun c i t wr => ∃ (j cy : Nat) (o : List Nat), c = .int .u64 cy ∧ i = .int .i64 j ∧ j ≤ k.length ∧ cy ≤ 1 ∧ o.length = j ∧ Hid (Wok o) ∧ Hid (Ro wr w.heap.size (o ++ List.replicate (k.length + 1 - j) 0)) ∧ Hid (val o + 4294967296 ^ j * cy = val (k.take j) + val (l.take j)) ∧ Hid (Below w.heap.size w wr)) (fun c i t _ => k.length - (intOf i).toNat)
    case atStart => exact ⟨0, 0, [], rfl, rfl, Nat.zero_le _, by omega, rfl, hid Wok.nil, RO, hid rfl, B1⟩
    case round =>
      obtain ⟨j, cy, o, rfl, rfl, hj, hcy, hol, hok, hR, hS, hB⟩ := hrel
      haveI : Has wr w.heap.size := ⟨hR.out.lt⟩
      by_cases hjl : j < k.length
      · obtain ⟨ga, oa, rfl, hga, hxa⟩ := HB.out (by omega)
        have hx : k[j]? = some k[j] := List.getElem?_eq_getElem hjl
        obtain ⟨x, hxx⟩ : ∃ x, x = k[j] := ⟨_, rfl⟩
        rw [← hxx] at hx
        have hxB := (OKk).out.get hx
        have ca := cell_below (hxa j x hx) hga hB.out
        haveI : Has wr ga := ⟨Nat.lt_of_lt_of_le hga hB.out.size⟩
        obtain ⟨nn, hnn⟩ : ∃ nn, k.length + 1 - j = nn + 1 := ⟨k.length - j, by omega⟩
        have hR2 := hR.out
        rw [hnn] at hR2
        have co := hR2.cell (get_next o nn)
        have fo := hR2.free o.length
        rw [hol] at co fo
        have hj0 : (0 : Int) ≤ (j : Int) := by omega
        have hjl' : (j : Int) < (k.length : Int) := by omega
        have hjl2 : (j : Int) < (k.length : Int) + 1 := by omega
        by_cases hjk : j < l.length
        · obtain ⟨gb, ob, rfl, hgb, hxb⟩ := HA.out (by omega)
          have hy : l[j]? = some l[j] := List.getElem?_eq_getElem hjk
          obtain ⟨y, hyy⟩ : ∃ y, y = l[j] := ⟨_, rfl⟩
          rw [← hyy] at hy
          have hyB := (OKl).out.get hy
          have cb := cell_below (hxb j y hy) hgb hB.out
          haveI : Has wr gb := ⟨Nat.lt_of_lt_of_le hgb hB.out.size⟩
          have hjk' : (j : Int) < (l.length : Int) := by omega
          obtain ⟨t, ht⟩ : ∃ t, t = cy + (x + y) := ⟨_, rfl⟩
          have st := carry_step hol hS.out t ht
          have ST : Hid (val (o ++ [t % 4294967296]) + 4294967296 ^ (j + 1) * (t / 4294967296) = val (k.take (j + 1)) + val (l.take (j + 1))) := hid (by rw [st, val_take hx, val_take hy, Nat.mul_add]; omega)
          have htB : t / 4294967296 ≤ 1 := by omega
          have e1 : IntKind.u64.wrap (x : Int) = (x : Int) := by rw [IntKind.wrap_u64]; omega
          have e2 : IntKind.u64.wrap (y : Int) = (y : Int) := by rw [IntKind.wrap_u64]; omega
          have e3 : IntKind.u64.wrap ((x : Int) + (cy : Int)) = ((x + cy : Nat) : Int) := by rw [IntKind.wrap_u64]; omega
          have e4 : IntKind.u64.wrap (((x + cy : Nat) : Int) + (y : Int)) = ((t : Nat) : Int) := by rw [IntKind.wrap_u64]; omega
          have e4b : (x : Int) + (cy : Int) + (y : Int) = ((t : Nat) : Int) := by omega
          have e5 : IntKind.u32.wrap ((t : Nat) : Int) = ((t % 4294967296 : Nat) : Int) := by rw [IntKind.wrap_u32]; omega
          have e6 : ((t : Nat) : Int) / 4294967296 = ((t / 4294967296 : Nat) : Int) := by omega
          have RN : Hid (Ro (wr.setCell ⟨w.heap.size, j, none⟩ (.int .u32 ((t % 4294967296 : Nat) : Int))) w.heap.size ((o ++ [t % 4294967296]) ++ List.replicate nn 0)) := hid (by have := hR2.set j (t % 4294967296); rw [← hol, set_next] at this; rw [← hol]; exact this)
          have ON : Hid (Wok (o ++ [t % 4294967296])) := hid (hok.out.append (Wok.cons (Nat.mod_lt _ (by decide)) Wok.nil))
          have BN := hid (below_store (i := j) (v := .int .u32 ((t % 4294967296 : Nat) : Int)) hB.out (Nat.le_refl _))
          have hon : (o ++ [t % 4294967296]).length = j + 1 := by simp [hol]
          have hnn2 : nn = k.length + 1 - (j + 1) := by omega
          clear st hx hxx hy hyy hxa hxb hR2 ht
          generalize t % 4294967296 = tl at e5 RN ON BN hon ST ⊢
          generalize t / 4294967296 = th at e6 htB ST ⊢
          go_wp2_with fail
          go_roundw
          case rel => exact ⟨j + 1, th, o ++ [tl], by rfl, by rfl, by omega, htB, hon, ON, by rw [← hnn2]; exact RN, ST, BN⟩
          case measure => simp [intOf]; omega
        · have hjk' : ¬ (j : Int) < (l.length : Int) := by omega
          obtain ⟨t, ht⟩ : ∃ t, t = cy + x := ⟨_, rfl⟩
          have st := carry_step hol hS.out t ht
          have ST : Hid (val (o ++ [t % 4294967296]) + 4294967296 ^ (j + 1) * (t / 4294967296) = val (k.take (j + 1)) + val (l.take (j + 1))) := hid (by rw [st, val_take hx, take_all (l := l) (by omega)]; omega)
          have htB : t / 4294967296 ≤ 1 := by omega
          have e1 : IntKind.u64.wrap (x : Int) = (x : Int) := by rw [IntKind.wrap_u64]; omega
          have e3 : IntKind.u64.wrap ((x : Int) + (cy : Int)) = ((t : Nat) : Int) := by rw [IntKind.wrap_u64]; omega
          have e4b : (x : Int) + (cy : Int) = ((t : Nat) : Int) := by omega
          have e5 : IntKind.u32.wrap ((t : Nat) : Int) = ((t % 4294967296 : Nat) : Int) := by rw [IntKind.wrap_u32]; omega
          have e6 : ((t : Nat) : Int) / 4294967296 = ((t / 4294967296 : Nat) : Int) := by omega
          have RN : Hid (Ro (wr.setCell ⟨w.heap.size, j, none⟩ (.int .u32 ((t % 4294967296 : Nat) : Int))) w.heap.size ((o ++ [t % 4294967296]) ++ List.replicate nn 0)) := hid (by have := hR2.set j (t % 4294967296); rw [← hol, set_next] at this; rw [← hol]; exact this)
          have ON : Hid (Wok (o ++ [t % 4294967296])) := hid (hok.out.append (Wok.cons (Nat.mod_lt _ (by decide)) Wok.nil))
          have BN := hid (below_store (i := j) (v := .int .u32 ((t % 4294967296 : Nat) : Int)) hB.out (Nat.le_refl _))
          have hon : (o ++ [t % 4294967296]).length = j + 1 := by simp [hol]
          have hnn2 : nn = k.length + 1 - (j + 1) := by omega
          clear st hx hxx hxa hR2 ht
          generalize t % 4294967296 = tl at e5 RN ON BN hon ST ⊢
          generalize t / 4294967296 = th at e6 htB ST ⊢
          go_wp2_with fail
          go_roundw
          case rel => exact ⟨j + 1, th, o ++ [tl], by rfl, by rfl, by omega, htB, hon, ON, by rw [← hnn2]; exact RN, ST, BN⟩
          case measure => simp [intOf]; omega
      · obtain rfl : j = k.length := by omega
        have hR2 := hR.out
        rw [show k.length + 1 - k.length = 0 + 1 by omega] at hR2
        have co := hR2.cell (get_next o 0)
        have fo := hR2.free o.length
        rw [hol] at co fo
        have hRN := hR2.set o.length cy
        rw [set_next, List.replicate_zero, List.append_nil, hol] at hRN
        have RN := hid hRN
        have BN := hid (below_store (i := k.length) (v := .int .u32 (cy : Int)) hB.out (Nat.le_refl _))
        have hcy' : IntKind.u32.wrap (cy : Int) = (cy : Int) := by rw [IntKind.wrap_u32]; omega
        have hlen : (o ++ [cy]).length = k.length + 1 := by simp [hol]
        have OKN : Hid (Wok (o ++ [cy])) := hid (hok.out.append (Wok.cons (by omega) Wok.nil))
        have hval : val (o ++ [cy]) = m + n := by
          have := hS.out
          rw [List.take_length, List.take_of_length_le KL.out] at this
          rw [val_append, hol]
          have e : val [cy] = cy := by simp [val]
          rw [e, this]
          exact VAL.out
        have HV := hid hval
        clear hR2 hRN hval
        have W2 : Hid (Wd (wr.setCell ⟨w.heap.size, k.length, none⟩ (.int .u32 (cy : Int))) (.slice (some ⟨w.heap.size, 0, none⟩) (k.length + 1) (k.length + 1)) (o ++ [cy])) := hid (by have := RN.out.wd (cap := k.length + 1) (by omega); rw [hlen] at this; exact this)
        have hlen2 : (o ++ [cy]).length ≤ 1099511627776 := by omega
        go_wp2_with fail
        refine (btrim _ _ _ W2.out OKN.out hlen2).mono ?_
        rintro e w' ⟨v, rfl, hw, hbl, rfl⟩
        rw [HV.out] at hw
        have HW := hid hw
        clear hw
        go_wp2_with fail
        go_ret
        exact ⟨_, rfl, HW.out, (Fresh.own (Nat.le_refl _)).of hbl, BN.out⟩

  · have hl' : ¬ (l.length : Int) < (k.length : Int) := by omega
    have KL : Hid (k.length ≤ l.length) := hid (by omega)
    have VAL : Hid (val l + val k = m + n) := hid (by omega)
    clear vm vn
    go_enter Tryz.func113, Tryz.ntmps113
    go_wp2_with (at_make; refine make_words _ rfl _ _ rfl _ (l.length + 1) rfl rfl (by first | rfl | omega | simp) (by omega) ?_; intro w1 hro hb1 hlt1)
    have RO := hro
    have B1 := hid hb1
    clear hro hb1
    go_loopw [6, 7, 8] (fun c i t wr => ∃ (j cy : Nat) (o : List Nat), c = .int .u64 cy ∧ i = .int .i64 j ∧ j ≤ l.length ∧ cy ≤ 1 ∧ o.length = j ∧ Hid (Wok o) ∧ Hid (Ro wr w.heap.size (o ++ List.replicate (l.length + 1 - j) 0)) ∧ Hid (val o + 4294967296 ^ j * cy = val (l.take j) + val (k.take j)) ∧ Hid (Below w.heap.size w wr)) (fun c i t _ => l.length - (intOf i).toNat)
    case atStart => exact ⟨0, 0, [], rfl, rfl, Nat.zero_le _, by omega, rfl, hid Wok.nil, RO, hid rfl, B1⟩
    case round =>
      obtain ⟨j, cy, o, rfl, rfl, hj, hcy, hol, hok, hR, hS, hB⟩ := hrel
      haveI : Has wr w.heap.size := ⟨hR.out.lt⟩
      by_cases hjl : j < l.length
      · obtain ⟨ga, oa, rfl, hga, hxa⟩ := HA.out (by omega)
        have hx : l[j]? = some l[j] := List.getElem?_eq_getElem hjl
        obtain ⟨x, hxx⟩ : ∃ x, x = l[j] := ⟨_, rfl⟩
        rw [← hxx] at hx
        have hxB := (OKl).out.get hx
        have ca := cell_below (hxa j x hx) hga hB.out
        haveI : Has wr ga := ⟨Nat.lt_of_lt_of_le hga hB.out.size⟩
        obtain ⟨nn, hnn⟩ : ∃ nn, l.length + 1 - j = nn + 1 := ⟨l.length - j, by omega⟩
        have hR2 := hR.out
        rw [hnn] at hR2
        have co := hR2.cell (get_next o nn)
        have fo := hR2.free o.length
        rw [hol] at co fo
        have hj0 : (0 : Int) ≤ (j : Int) := by omega
        have hjl' : (j : Int) < (l.length : Int) := by omega
        have hjl2 : (j : Int) < (l.length : Int) + 1 := by omega
        by_cases hjk : j < k.length
        · obtain ⟨gb, ob, rfl, hgb, hxb⟩ := HB.out (by omega)
          have hy : k[j]? = some k[j] := List.getElem?_eq_getElem hjk
          obtain ⟨y, hyy⟩ : ∃ y, y = k[j] := ⟨_, rfl⟩
          rw [← hyy] at hy
          have hyB := (OKk).out.get hy
          have cb := cell_below (hxb j y hy) hgb hB.out
          haveI : Has wr gb := ⟨Nat.lt_of_lt_of_le hgb hB.out.size⟩
          have hjk' : (j : Int) < (k.length : Int) := by omega
          obtain ⟨t, ht⟩ : ∃ t, t = cy + (x + y) := ⟨_, rfl⟩
          have st := carry_step hol hS.out t ht
          have ST : Hid (val (o ++ [t % 4294967296]) + 4294967296 ^ (j + 1) * (t / 4294967296) = val (l.take (j + 1)) + val (k.take (j + 1))) := hid (by rw [st, val_take hx, val_take hy, Nat.mul_add]; omega)
          have htB : t / 4294967296 ≤ 1 := by omega
          have e1 : IntKind.u64.wrap (x : Int) = (x : Int) := by rw [IntKind.wrap_u64]; omega
          have e2 : IntKind.u64.wrap (y : Int) = (y : Int) := by rw [IntKind.wrap_u64]; omega
          have e3 : IntKind.u64.wrap ((x : Int) + (cy : Int)) = ((x + cy : Nat) : Int) := by rw [IntKind.wrap_u64]; omega
          have e4 : IntKind.u64.wrap (((x + cy : Nat) : Int) + (y : Int)) = ((t : Nat) : Int) := by rw [IntKind.wrap_u64]; omega
          have e4b : (x : Int) + (cy : Int) + (y : Int) = ((t : Nat) : Int) := by omega
          have e5 : IntKind.u32.wrap ((t : Nat) : Int) = ((t % 4294967296 : Nat) : Int) := by rw [IntKind.wrap_u32]; omega
          have e6 : ((t : Nat) : Int) / 4294967296 = ((t / 4294967296 : Nat) : Int) := by omega
          have RN : Hid (Ro (wr.setCell ⟨w.heap.size, j, none⟩ (.int .u32 ((t % 4294967296 : Nat) : Int))) w.heap.size ((o ++ [t % 4294967296]) ++ List.replicate nn 0)) := hid (by have := hR2.set j (t % 4294967296); rw [← hol, set_next] at this; rw [← hol]; exact this)
          have ON : Hid (Wok (o ++ [t % 4294967296])) := hid (hok.out.append (Wok.cons (Nat.mod_lt _ (by decide)) Wok.nil))
          have BN := hid (below_store (i := j) (v := .int .u32 ((t % 4294967296 : Nat) : Int)) hB.out (Nat.le_refl _))
          have hon : (o ++ [t % 4294967296]).length = j + 1 := by simp [hol]
          have hnn2 : nn = l.length + 1 - (j + 1) := by omega
          clear st hx hxx hy hyy hxa hxb hR2 ht
          generalize t % 4294967296 = tl at e5 RN ON BN hon ST ⊢
          generalize t / 4294967296 = th at e6 htB ST ⊢
          go_wp2_with fail
          go_roundw
          case rel => exact ⟨j + 1, th, o ++ [tl], by rfl, by rfl, by omega, htB, hon, ON, by rw [← hnn2]; exact RN, ST, BN⟩
          case measure => simp [intOf]; omega
        · have hjk' : ¬ (j : Int) < (k.length : Int) := by omega
          obtain ⟨t, ht⟩ : ∃ t, t = cy + x := ⟨_, rfl⟩
          have st := carry_step hol hS.out t ht
          have ST : Hid (val (o ++ [t % 4294967296]) + 4294967296 ^ (j + 1) * (t / 4294967296) = val (l.take (j + 1)) + val (k.take (j + 1))) := hid (by rw [st, val_take hx, take_all (l := k) (by omega)]; omega)
          have htB : t / 4294967296 ≤ 1 := by omega
          have e1 : IntKind.u64.wrap (x : Int) = (x : Int) := by rw [IntKind.wrap_u64]; omega
          have e3 : IntKind.u64.wrap ((x : Int) + (cy : Int)) = ((t : Nat) : Int) := by rw [IntKind.wrap_u64]; omega
          have e4b : (x : Int) + (cy : Int) = ((t : Nat) : Int) := by omega
          have e5 : IntKind.u32.wrap ((t : Nat) : Int) = ((t % 4294967296 : Nat) : Int) := by rw [IntKind.wrap_u32]; omega
          have e6 : ((t : Nat) : Int) / 4294967296 = ((t / 4294967296 : Nat) : Int) := by omega
          have RN : Hid (Ro (wr.setCell ⟨w.heap.size, j, none⟩ (.int .u32 ((t % 4294967296 : Nat) : Int))) w.heap.size ((o ++ [t % 4294967296]) ++ List.replicate nn 0)) := hid (by have := hR2.set j (t % 4294967296); rw [← hol, set_next] at this; rw [← hol]; exact this)
          have ON : Hid (Wok (o ++ [t % 4294967296])) := hid (hok.out.append (Wok.cons (Nat.mod_lt _ (by decide)) Wok.nil))
          have BN := hid (below_store (i := j) (v := .int .u32 ((t % 4294967296 : Nat) : Int)) hB.out (Nat.le_refl _))
          have hon : (o ++ [t % 4294967296]).length = j + 1 := by simp [hol]
          have hnn2 : nn = l.length + 1 - (j + 1) := by omega
          clear st hx hxx hxa hR2 ht
          generalize t % 4294967296 = tl at e5 RN ON BN hon ST ⊢
          generalize t / 4294967296 = th at e6 htB ST ⊢
          go_wp2_with fail
          go_roundw
          case rel => exact ⟨j + 1, th, o ++ [tl], by rfl, by rfl, by omega, htB, hon, ON, by rw [← hnn2]; exact RN, ST, BN⟩
          case measure => simp [intOf]; omega
      · obtain rfl : j = l.length := by omega
        have hR2 := hR.out
        rw [show l.length + 1 - l.length = 0 + 1 by omega] at hR2
        have co := hR2.cell (get_next o 0)
        have fo := hR2.free o.length
        rw [hol] at co fo
        have hRN := hR2.set o.length cy
        rw [set_next, List.replicate_zero, List.append_nil, hol] at hRN
        have RN := hid hRN
        have BN := hid (below_store (i := l.length) (v := .int .u32 (cy : Int)) hB.out (Nat.le_refl _))
        have hcy' : IntKind.u32.wrap (cy : Int) = (cy : Int) := by rw [IntKind.wrap_u32]; omega
        have hlen : (o ++ [cy]).length = l.length + 1 := by simp [hol]
        have OKN : Hid (Wok (o ++ [cy])) := hid (hok.out.append (Wok.cons (by omega) Wok.nil))
        have hval : val (o ++ [cy]) = m + n := by
          have := hS.out
          rw [List.take_length, List.take_of_length_le KL.out] at this
          rw [val_append, hol]
          have e : val [cy] = cy := by simp [val]
          rw [e, this]
          exact VAL.out
        have HV := hid hval
        clear hR2 hRN hval
        have W2 : Hid (Wd (wr.setCell ⟨w.heap.size, l.length, none⟩ (.int .u32 (cy : Int))) (.slice (some ⟨w.heap.size, 0, none⟩) (l.length + 1) (l.length + 1)) (o ++ [cy])) := hid (by have := RN.out.wd (cap := l.length + 1) (by omega); rw [hlen] at this; exact this)
        have hlen2 : (o ++ [cy]).length ≤ 1099511627776 := by omega
        go_wp2_with fail
        refine (btrim _ _ _ W2.out OKN.out hlen2).mono ?_
        rintro e w' ⟨v, rfl, hw, hbl, rfl⟩
        rw [HV.out] at hw
        have HW := hid hw
        clear hw
        go_wp2_with fail
        go_ret
        exact ⟨_, rfl, HW.out, (Fresh.own (Nat.le_refl _)).of hbl, BN.out⟩

set_option maxRecDepth 100000 in
set_option maxHeartbeats 8000000 in
theorem bsub (va vb : Value) (m n : Nat) (w : World) (ha : Wd w va (words m)) (hb : Wd w vb (words n)) (hm : (words m).length ≤ 549755813888) (hnm : n ≤ m) :
    Calls Tryz.prog 114 #[va, vb] w fun e w' => ∃ v, e = .returned v ∧ Wd w' v (words (m - n)) ∧ Fresh w.heap.size v ∧ Below w.heap.size w w' := by
  have okm := words_ok m
  have okn := words_ok n
  have vm := val_words m
  have vn := val_words n
  have hlen := len_mono hnm
  obtain ⟨a, ca, rfl, hca, hce⟩ := ha.form
  obtain ⟨b, cb, rfl, hcb, hcf⟩ := hb.form
  clear ha hb
  generalize words m = l at okm vm hca hce hm hlen ⊢
  generalize words n = k at okn vn hcb hcf hlen ⊢
  have HA := hid hce
  have HB := hid hcf
  have OKl := hid okm
  have OKk := hid okn
  have VM := hid vm
  have VN := hid vn
  clear hce hcf okm okn vm vn
  go_enter Tryz.func114, Tryz.ntmps114
  go_wp2_with (at_make; refine make_words _ rfl _ _ rfl _ l.length rfl rfl rfl (by omega) ?_; intro w1 hro hb1 hlt1)
  have RO := hro
  have B1 := hid hb1
  clear hro hb1
  go_loopw [6, 7, 8] (fun c i t wr => ∃ (j br : Nat) (o : List Nat), c = .int .u64 br ∧ i = .int .i64 j ∧ j ≤ l.length ∧ br ≤ 1 ∧ o.length = j ∧ Hid (Wok o) ∧ Hid (Ro wr w.heap.size (o ++ List.replicate (l.length - j) 0)) ∧ Hid (val o + val (k.take j) = val (l.take j) + 4294967296 ^ j * br) ∧ Hid (Below w.heap.size w wr)) (fun c i t _ => l.length - (intOf i).toNat)
  case atStart => exact ⟨0, 0, [], rfl, rfl, Nat.zero_le _, by omega, rfl, hid Wok.nil, RO, hid rfl, B1⟩
  case round =>
    obtain ⟨j, br, o, rfl, rfl, hj, hbr, hol, hok, hR, hS, hB⟩ := hrel
    haveI : Has wr w.heap.size := ⟨hR.out.lt⟩
    by_cases hjl : j < l.length
    · obtain ⟨ga, oa, rfl, hga, hxa⟩ := HA.out (by omega)
      have hx : l[j]? = some l[j] := List.getElem?_eq_getElem hjl
      obtain ⟨x, hxx⟩ : ∃ x, x = l[j] := ⟨_, rfl⟩
      rw [← hxx] at hx
      have hxB := OKl.out.get hx
      have ca := cell_below (hxa j x hx) hga hB.out
      haveI : Has wr ga := ⟨Nat.lt_of_lt_of_le hga hB.out.size⟩
      obtain ⟨nn, hnn⟩ : ∃ nn, l.length - j = nn + 1 := ⟨l.length - j - 1, by omega⟩
      have hR2 := hR.out
      rw [hnn] at hR2
      have co := hR2.cell (get_next o nn)
      have fo := hR2.free o.length
      rw [hol] at co fo
      have hj0 : (0 : Int) ≤ (j : Int) := by omega
      have hjl' : (j : Int) < (l.length : Int) := by omega
      have e1 : IntKind.u64.wrap (x : Int) = (x : Int) := by rw [IntKind.wrap_u64]; omega
      have e3 := sub64 x br hxB hbr
      by_cases hjk : j < k.length
      · obtain ⟨gb, ob, rfl, hgb, hxb⟩ := HB.out (by omega)
        have hy : k[j]? = some k[j] := List.getElem?_eq_getElem hjk
        obtain ⟨y, hyy⟩ : ∃ y, y = k[j] := ⟨_, rfl⟩
        rw [← hyy] at hy
        have hyB := OKk.out.get hy
        have cb := cell_below (hxb j y hy) hgb hB.out
        haveI : Has wr gb := ⟨Nat.lt_of_lt_of_le hgb hB.out.size⟩
        have hjk' : (j : Int) < (k.length : Int) := by omega
        have e2 : IntKind.u64.wrap (y : Int) = (y : Int) := by rw [IntKind.wrap_u64]; omega
        have st := borrow_step hol hS.out hxB hyB hbr
        rw [← val_take hx, ← val_take hy] at st
        have e4 := sub64b x br y hxB hbr hyB
        clear hy hyy hxb
        have low := sub_low x br y hxB hbr hyB
        have top := sub_top x br y hxB hbr hyB
        rw [← low, ← top] at st
        have topB : (x + 36893488147419103232 - br - y) % 18446744073709551616 / 9223372036854775808 ≤ 1 := by rw [top]; split <;> omega
        clear low top
        obtain ⟨T1, hT1⟩ : ∃ T1, T1 = (x + 18446744073709551616 - br) % 18446744073709551616 := ⟨_, rfl⟩
        obtain ⟨T2, hT2⟩ : ∃ T2, T2 = (x + 36893488147419103232 - br - y) % 18446744073709551616 := ⟨_, rfl⟩
        rw [← hT1] at e3
        rw [← hT2] at st topB
        rw [← hT1, ← hT2] at e4
        have hT2B : T2 < 18446744073709551616 := by rw [hT2]; exact Nat.mod_lt _ (by decide)
        have e5 : IntKind.u32.wrap ((T2 : Nat) : Int) = ((T2 % 4294967296 : Nat) : Int) := by rw [IntKind.wrap_u32]; omega
        have e6 : ((T2 : Nat) : Int) / 9223372036854775808 = ((T2 / 9223372036854775808 : Nat) : Int) := by omega
        have ST := hid st
        have RN : Hid (Ro (wr.setCell ⟨w.heap.size, j, none⟩ (.int .u32 ((T2 % 4294967296 : Nat) : Int))) w.heap.size ((o ++ [T2 % 4294967296]) ++ List.replicate nn 0)) := hid (by have := hR2.set j (T2 % 4294967296); rw [← hol, set_next] at this; rw [← hol]; exact this)
        have ON : Hid (Wok (o ++ [T2 % 4294967296])) := hid (hok.out.append (Wok.cons (Nat.mod_lt _ (by decide)) Wok.nil))
        have BN := hid (below_store (i := j) (v := .int .u32 ((T2 % 4294967296 : Nat) : Int)) hB.out (Nat.le_refl _))
        have hon : (o ++ [T2 % 4294967296]).length = j + 1 := by simp [hol]
        have hnn2 : nn = l.length - (j + 1) := by omega
        clear st hx hxx hxa hR2 hT1 hT2
        generalize T2 % 4294967296 = tl at e5 RN ON BN hon ST ⊢
        generalize T2 / 9223372036854775808 = th at e6 topB ST ⊢
        go_wp2_with fail
        go_roundw
        case rel => exact ⟨j + 1, th, o ++ [tl], by rfl, by rfl, by omega, topB, hon, ON, by rw [← hnn2]; exact RN, ST, BN⟩
        case measure => simp [intOf]; omega
      · have hjk' : ¬ (j : Int) < (k.length : Int) := by omega
        obtain ⟨y, hy0⟩ : ∃ y : Nat, y = 0 := ⟨0, rfl⟩
        have hyB : y < 4294967296 := by omega
        have st := borrow_step hol hS.out hxB hyB hbr
        have e0 : 4294967296 ^ j * y = 0 := by rw [hy0, Nat.mul_zero]
        rw [← val_take hx, e0, Nat.add_zero, ← take_all (l := k) (j := j) (by omega)] at st
        clear e0
        have low := sub_low x br y hxB hbr hyB
        have top := sub_top x br y hxB hbr hyB
        rw [← low, ← top] at st
        have topB : (x + 36893488147419103232 - br - y) % 18446744073709551616 / 9223372036854775808 ≤ 1 := by rw [top]; split <;> omega
        clear low top
        obtain ⟨T1, hT1⟩ : ∃ T1, T1 = (x + 18446744073709551616 - br) % 18446744073709551616 := ⟨_, rfl⟩
        obtain ⟨T2, hT2⟩ : ∃ T2, T2 = (x + 36893488147419103232 - br - y) % 18446744073709551616 := ⟨_, rfl⟩
        rw [← hT1] at e3
        rw [← hT2] at st topB
        have hTT : T1 = T2 := by rw [hT1, hT2, hy0]; omega
        subst hTT
        have hT2B : T1 < 18446744073709551616 := by rw [hT1]; exact Nat.mod_lt _ (by decide)
        have e5 : IntKind.u32.wrap ((T1 : Nat) : Int) = ((T1 % 4294967296 : Nat) : Int) := by rw [IntKind.wrap_u32]; omega
        have e6 : ((T1 : Nat) : Int) / 9223372036854775808 = ((T1 / 9223372036854775808 : Nat) : Int) := by omega
        have ST := hid st
        have RN : Hid (Ro (wr.setCell ⟨w.heap.size, j, none⟩ (.int .u32 ((T1 % 4294967296 : Nat) : Int))) w.heap.size ((o ++ [T1 % 4294967296]) ++ List.replicate nn 0)) := hid (by have := hR2.set j (T1 % 4294967296); rw [← hol, set_next] at this; rw [← hol]; exact this)
        have ON : Hid (Wok (o ++ [T1 % 4294967296])) := hid (hok.out.append (Wok.cons (Nat.mod_lt _ (by decide)) Wok.nil))
        have BN := hid (below_store (i := j) (v := .int .u32 ((T1 % 4294967296 : Nat) : Int)) hB.out (Nat.le_refl _))
        have hon : (o ++ [T1 % 4294967296]).length = j + 1 := by simp [hol]
        have hnn2 : nn = l.length - (j + 1) := by omega
        clear st hx hxx hxa hR2 hT1 hT2 hy0
        generalize T1 % 4294967296 = tl at e5 RN ON BN hon ST ⊢
        generalize T1 / 9223372036854775808 = th at e6 topB ST ⊢
        go_wp2_with fail
        go_roundw
        case rel => exact ⟨j + 1, th, o ++ [tl], by rfl, by rfl, by omega, topB, hon, ON, by rw [← hnn2]; exact RN, ST, BN⟩
        case measure => simp [intOf]; omega
    · obtain rfl : j = l.length := by omega
      have hR2 := hR.out
      rw [Nat.sub_self, List.replicate_zero, List.append_nil] at hR2
      have hval : val o = m - n := by
        have h1 := hS.out
        have h2 := val_lt hok.out
        rw [List.take_length, List.take_of_length_le hlen, VM.out, VN.out, ← hol] at h1
        rcases (show br = 0 ∨ br = 1 by omega) with rfl | rfl
        · omega
        · rw [Nat.mul_one] at h1; omega
      have W2 : Hid (Wd wr (.slice (some ⟨w.heap.size, 0, none⟩) l.length l.length) o) := hid (by have := hR2.wd (cap := l.length) (by omega); rw [hol] at this; exact this)
      have HV := hid hval
      have hlen2 : o.length ≤ 1099511627776 := by omega
      clear hR2 hval
      go_wp2_with fail
      refine (btrim _ _ _ W2.out hok.out hlen2).mono ?_
      rintro e w' ⟨v, rfl, hw, hbl, rfl⟩
      rw [HV.out] at hw
      have HW := hid hw
      clear hw
      go_wp2_with fail
      go_ret
      exact ⟨_, rfl, HW.out, (Fresh.own (Nat.le_refl _)).of hbl, hB.out⟩
end Big
end
section
open Go.RowKit
namespace Big
theorem get_mid (A B C : List Nat) (d : Nat) : (A ++ (B ++ d :: C))[A.length + B.length]? = some d := by
  rw [List.getElem?_append_right (by omega), show A.length + B.length - A.length = B.length by omega, List.getElem?_append_right (Nat.le_refl _), Nat.sub_self]; rfl
theorem set_mid (A B C : List Nat) (d z : Nat) : (A ++ (B ++ d :: C)).set (A.length + B.length) z = A ++ ((B ++ [z]) ++ C) := by
  rw [List.set_append_right _ _ (by omega), show A.length + B.length - A.length = B.length by omega, List.set_append_right _ _ (Nat.le_refl _), Nat.sub_self, List.set_cons_zero]
  simp
theorem mul_words_lt {x y : Nat} (hx : x < 4294967296) (hy : y < 4294967296) : x * y ≤ 18446744065119617025 := Nat.mul_le_mul (show x ≤ 4294967295 by omega) (show y ≤ 4294967295 by omega)
set_option maxRecDepth 100000 in
set_option maxHeartbeats 16000000 in
theorem bplain (va vb : Value) (m n : Nat) (w : World) (ha : Wd w va (words m)) (hb : Wd w vb (words n)) (hm : (words m).length ≤ 274877906944) (hn : (words n).length ≤ 274877906944) :
    Calls Tryz.prog 111 #[va, vb] w fun e w' => ∃ v, e = .returned v ∧ Wd w' v (words (m * n)) ∧ Fresh w.heap.size v ∧ Below w.heap.size w w' := by
  have okm := words_ok m
  have okn := words_ok n
  have vm := val_words m
  have vn := val_words n
  obtain ⟨a, ca, rfl, hca, hce⟩ := ha.form
  obtain ⟨b, cb, rfl, hcb, hcf⟩ := hb.form
  clear ha hb
  generalize words m = l at okm vm hca hce hm ⊢
  generalize words n = k at okn vn hcb hcf hn ⊢
  have HA := hid hce
  have HB := hid hcf
  have OKl := hid okm
  have OKk := hid okn
  have VM := hid vm
  have VN := hid vn
  clear hce hcf okm okn vm vn
  go_enter Tryz.func111, Tryz.ntmps111
  go_wp2_with (at_make; refine make_words _ rfl _ _ rfl _ (l.length + k.length) rfl rfl (by first | rfl | omega | simp) (by omega) ?_; intro w1 hro hb1 hlt1)
  have RO : Hid (Ro w1 w.heap.size (List.replicate k.length 0 ++ List.replicate l.length 0)) := hid (by rw [List.replicate_append_replicate, Nat.add_comm k.length]; exact hro.out)
  have B1 := hid hb1
  clear hro hb1
  go_loopw [6, 7, 8, 9, 10] (fun s6 s7 s8 s9 s10 wr => ∃ (i : Nat) (P : List Nat), s6 = .int .i64 i ∧ i ≤ l.length ∧ P.length = i + k.length ∧ Hid (Wok P) ∧ Hid (Ro wr w.heap.size (P ++ List.replicate (l.length - i) 0)) ∧ Hid (val P = val (l.take i) * val k) ∧ Hid (Below w.heap.size w wr)) (fun s6 s7 s8 s9 s10 _ => l.length - (intOf s6).toNat)
  case atStart => exact ⟨0, List.replicate k.length 0, rfl, Nat.zero_le _, by simp, hid (Wok.rep _), RO, hid (by rw [val_rep]; simp [val]), B1⟩
  case round =>
    obtain ⟨i, P, rfl, hi, hPl, hPok, hR, hS, hB⟩ := hrel
    haveI : Has wr w.heap.size := ⟨hR.out.lt⟩
    by_cases hil : i < l.length
    · obtain ⟨ga, oa, rfl, hga, hxa⟩ := HA.out (by omega)
      have hx : l[i]? = some l[i] := List.getElem?_eq_getElem hil
      obtain ⟨x, hxx⟩ : ∃ x, x = l[i] := ⟨_, rfl⟩
      rw [← hxx] at hx
      have hxB := OKl.out.get hx
      have ca := cell_below (hxa i x hx) hga hB.out
      haveI : Has wr ga := ⟨Nat.lt_of_lt_of_le hga hB.out.size⟩
      have hi0 : (0 : Int) ≤ (i : Int) := by omega
      have hil' : (i : Int) < (l.length : Int) := by omega
      have e1 : IntKind.u64.wrap (x : Int) = (x : Int) := by rw [IntKind.wrap_u64]; omega
      obtain ⟨A0, hA0⟩ : ∃ A0, A0 = P.take i := ⟨_, rfl⟩
      obtain ⟨D, hD⟩ : ∃ D, D = P.drop i := ⟨_, rfl⟩
      have hPA : P = A0 ++ D := by rw [hA0, hD, List.take_append_drop]
      have hA0l : A0.length = i := by rw [hA0, List.length_take]; omega
      have hDl : D.length = k.length := by rw [hD, List.length_drop]; omega
      have hDok : Wok D := by rw [hD]; exact hPok.out.drop i
      have hA0ok : Wok A0 := by rw [hA0]; exact hPok.out.take i
      obtain ⟨nz, hnz⟩ : ∃ nz, l.length - i = nz + 1 := ⟨l.length - i - 1, by omega⟩
      have HX := hid hx
      have DOK := hid hDok
      have AOK := hid hA0ok
      have HPA := hid hPA
      have R0 : Hid (Ro wr w.heap.size (A0 ++ ([] ++ (D ++ List.replicate (nz + 1) 0)))) := hid (by have := hR.out; rw [hnz, hPA, List.append_assoc] at this; exact this)
      clear hx hxx hxa hDok hA0ok hA0 hD hPA hR
      go_wp2_with fail
      go_loopw [7, 9, 10] (fun s7 s9 s10 wr => ∃ (j cy : Nat) (o : List Nat), s7 = .int .u64 cy ∧ s9 = .int .i64 j ∧ j ≤ k.length ∧ cy < 4294967296 ∧ o.length = j ∧ Hid (Wok o) ∧ Hid (Ro wr w.heap.size (A0 ++ (o ++ (D.drop j ++ List.replicate (nz + 1) 0)))) ∧ Hid (val o + 4294967296 ^ j * cy = val (D.take j) + x * val (k.take j)) ∧ Hid (Below w.heap.size w wr)) (fun s7 s9 s10 _ => k.length - (intOf s9).toNat)
      case atStart => exact ⟨0, 0, [], rfl, rfl, Nat.zero_le _, by omega, rfl, hid Wok.nil, R0, hid rfl, hB⟩
      case round =>
        obtain ⟨j, cy, o, rfl, rfl, hj, hcy, hol, hok, hR, hT, hB⟩ := hrel
        haveI : Has wr w.heap.size := ⟨hR.out.lt⟩
        by_cases hjk : j < k.length
        · obtain ⟨gb, ob, rfl, hgb, hxb⟩ := HB.out (by omega)
          have hy : k[j]? = some k[j] := List.getElem?_eq_getElem hjk
          obtain ⟨y, hyy⟩ : ∃ y, y = k[j] := ⟨_, rfl⟩
          rw [← hyy] at hy
          have hyB := OKk.out.get hy
          have cb := cell_below (hxb j y hy) hgb hB.out
          haveI : Has wr gb := ⟨Nat.lt_of_lt_of_le hgb hB.out.size⟩
          have hd : D[j]? = some D[j] := List.getElem?_eq_getElem (by omega)
          have hdr := List.drop_eq_getElem_cons (show j < D.length by omega)
          obtain ⟨d, hdd⟩ : ∃ d, d = D[j] := ⟨_, rfl⟩
          rw [← hdd] at hd hdr
          have hdB := DOK.out.get hd
          have hR2 := hR.out
          rw [hdr, List.cons_append] at hR2
          have co := hR2.cell (get_mid A0 o (D.drop (j + 1) ++ List.replicate (nz + 1) 0) d)
          have fo := hR2.free (A0.length + o.length)
          obtain ⟨q, hq⟩ : ∃ q, q = i + j := ⟨_, rfl⟩
          have hql : A0.length + o.length = q := by omega
          rw [hql] at co fo
          have q1 : IntKind.i64.wrap ((i : Int) + (j : Int)) = (q : Int) := by rw [show (i : Int) + (j : Int) = (q : Int) by omega]; exact IntWalk.i64_in _ (by omega)
          have q2 : (i : Int) + (j : Int) = (q : Int) := by omega
          have q3 : (0 : Int) ≤ (q : Int) := by omega
          have q4 : (q : Int) < (l.length : Int) + (k.length : Int) := by omega
          have q5 : q < l.length + k.length := by omega
          have hj0 : (0 : Int) ≤ (j : Int) := by omega
          have hjk' : (j : Int) < (k.length : Int) := by omega
          have hxyB := mul_words_lt hxB hyB
          obtain ⟨xy, hxy⟩ : ∃ xy, xy = x * y := ⟨_, rfl⟩
          have hxyI : (x : Int) * (y : Int) = (xy : Int) := by rw [hxy]; simp
          obtain ⟨t, ht⟩ : ∃ t, t = cy + (d + xy) := ⟨_, rfl⟩
          have st := carry_step hol hT.out t ht
          have ST : Hid (val (o ++ [t % 4294967296]) + 4294967296 ^ (j + 1) * (t / 4294967296) = val (D.take (j + 1)) + x * val (k.take (j + 1))) := hid (by
            rw [st, val_take hd, val_take hy, Nat.mul_add, Nat.mul_add, hxy, show x * (4294967296 ^ j * y) = 4294967296 ^ j * (x * y) by rw [← Nat.mul_assoc, Nat.mul_comm x, Nat.mul_assoc]]; omega)
          rw [← hxy] at hxyB
          have htB : t / 4294967296 < 4294967296 := by omega
          have e2 : IntKind.u64.wrap (y : Int) = (y : Int) := by rw [IntKind.wrap_u64]; omega
          have e3 : IntKind.u64.wrap ((x : Int) * (y : Int)) = (xy : Int) := by rw [hxyI, IntKind.wrap_u64]; omega
          have e3d : IntKind.u64.wrap (d : Int) = (d : Int) := by rw [IntKind.wrap_u64]; omega
          have e4 : IntKind.u64.wrap ((xy : Int) + (d : Int)) = ((xy + d : Nat) : Int) := by rw [IntKind.wrap_u64]; omega
          have e4c : IntKind.u64.wrap (((xy + d : Nat) : Int) + (cy : Int)) = (t : Int) := by rw [IntKind.wrap_u64]; omega
          have e5 : IntKind.u32.wrap (t : Int) = ((t % 4294967296 : Nat) : Int) := by rw [IntKind.wrap_u32]; omega
          have e6 : (t : Int) / 4294967296 = ((t / 4294967296 : Nat) : Int) := by omega
          have e6b : (t : Int) % 4294967296 = ((t % 4294967296 : Nat) : Int) := by omega
          have e4b : (xy : Int) + (d : Int) + (cy : Int) = (t : Int) := by omega
          have RN : Hid (Ro ((wr.drewN 1).setCell ⟨w.heap.size, q, none⟩ (.int .u32 ((t % 4294967296 : Nat) : Int))) w.heap.size (A0 ++ ((o ++ [t % 4294967296]) ++ (D.drop (j + 1) ++ List.replicate (nz + 1) 0)))) := hid (by
            have := hR2.set (A0.length + o.length) (t % 4294967296); rw [set_mid, hql] at this; exact this)
          have RNq : ∀ z, Hid (Ro ((wr.drewN z).setCell ⟨w.heap.size, q, none⟩ (.int .u32 ((t % 4294967296 : Nat) : Int))) w.heap.size (A0 ++ ((o ++ [t % 4294967296]) ++ (D.drop (j + 1) ++ List.replicate (nz + 1) 0)))) := fun z => hid (by
            have := (show Ro (wr.drewN z) w.heap.size _ from hR2).set (A0.length + o.length) (t % 4294967296); rw [set_mid, hql] at this; exact this)
          have ON : Hid (Wok (o ++ [t % 4294967296])) := hid (hok.out.append (Wok.cons (Nat.mod_lt _ (by decide)) Wok.nil))
          have BNq : ∀ z, Hid (Below w.heap.size w ((wr.drewN z).setCell ⟨w.heap.size, q, none⟩ (.int .u32 ((t % 4294967296 : Nat) : Int)))) := fun z => hid (((Keeps.of_below (S := []) hB.out).drewN z |>.set (Or.inr (Nat.le_refl _)) _ _).below)
          have hon : (o ++ [t % 4294967296]).length = j + 1 := by simp [hol]
          have RQ := hid RNq
          have BQ := hid BNq
          clear st hd hdr hdd hy hyy hxb hR2 ht hxy hxyI hql hq RN RNq BNq
          generalize t % 4294967296 = tl at e5 e6b RQ ON BQ hon ST ⊢
          generalize t / 4294967296 = th at e6 htB ST ⊢
          go_wp2_with fail
          go_quiet (fail)
          go_wp2_with fail
          go_roundw
          case rel => exact ⟨j + 1, th, o ++ [tl], by rfl, by rfl, by omega, htB, hon, ON, RQ.out _, ST, BQ.out _⟩
          case measure => simp [intOf]; omega
        · obtain rfl : j = k.length := by omega
          have hR2 := hR.out
          rw [← hDl, List.drop_length, List.nil_append, List.replicate_succ] at hR2
          have co := hR2.cell (get_mid A0 o (List.replicate nz 0) 0)
          have fo := hR2.free (A0.length + o.length)
          obtain ⟨q, hq⟩ : ∃ q, q = i + k.length := ⟨_, rfl⟩
          have hql : A0.length + o.length = q := by omega
          have hRN := hR2.set (A0.length + o.length) cy
          rw [set_mid, hql] at hRN
          rw [hql] at co fo
          have q2 : (i : Int) + (k.length : Int) = (q : Int) := by omega
          have q3 : (0 : Int) ≤ (q : Int) := by omega
          have q4 : (q : Int) < (l.length : Int) + (k.length : Int) := by omega
          have q5 : q < l.length + k.length := by omega
          have e5 : IntKind.u32.wrap (cy : Int) = (cy : Int) := by rw [IntKind.wrap_u32]; omega
          have RN : Hid (Ro (wr.setCell ⟨w.heap.size, q, none⟩ (.int .u32 (cy : Int))) w.heap.size ((A0 ++ (o ++ [cy])) ++ List.replicate (l.length - (i + 1)) 0)) := hid (by
            rw [show l.length - (i + 1) = nz by omega, List.append_assoc]; exact hRN)
          have BN := hid (below_store (i := q) (v := .int .u32 (cy : Int)) hB.out (Nat.le_refl _))
          have PN : Hid (Wok (A0 ++ (o ++ [cy]))) := hid (AOK.out.append (hok.out.append (Wok.cons hcy Wok.nil)))
          have SN : Hid (val (A0 ++ (o ++ [cy])) = val (l.take (i + 1)) * val k) := hid (by
            have h1 := hT.out
            rw [← hDl, List.take_length, hDl, List.take_length] at h1
            have h2 := hS.out
            rw [HPA.out, val_append, hA0l] at h2
            have e : val [cy] = cy := by simp [val]
            rw [val_append, hA0l, val_append, hol, e, h1, val_take HX.out, Nat.add_mul, Nat.mul_add, ← h2, Nat.mul_assoc]
            omega)
          have PL : (A0 ++ (o ++ [cy])).length = i + 1 + k.length := by simp [hA0l, hol]; omega
          clear hR2 hRN hql hq
          go_wp2_with fail
          go_roundw
          case rel => exact ⟨i + 1, A0 ++ (o ++ [cy]), by rfl, by omega, PL, PN, RN, SN, BN⟩
          case measure => simp [intOf]; omega
    · obtain rfl : i = l.length := by omega
      have hR2 := hR.out
      rw [Nat.sub_self, List.replicate_zero, List.append_nil] at hR2
      have hval : val P = m * n := by
        have := hS.out
        rw [List.take_length, VM.out, VN.out] at this
        exact this
      have W2 : Hid (Wd wr (.slice (some ⟨w.heap.size, 0, none⟩) (l.length + k.length) (l.length + k.length)) P) := hid (by have := hR2.wd (cap := l.length + k.length) (by omega); rw [hPl] at this; exact this)
      have HV := hid hval
      have hlen2 : P.length ≤ 1099511627776 := by omega
      clear hR2 hval
      go_wp2_with fail
      refine (btrim _ _ _ W2.out hPok.out hlen2).mono ?_
      rintro e w' ⟨v, rfl, hw, hbl, rfl⟩
      rw [HV.out] at hw
      have HW := hid hw
      clear hw
      go_wp2_with fail
      go_ret
      exact ⟨_, rfl, HW.out, (Fresh.own (Nat.le_refl _)).of hbl, hB.out⟩
end Big
end
section
open Go.RowKit
namespace Big
theorem get_low (j : Nat) (q : List Nat) : (List.replicate (j + 1) 0 ++ q)[j]? = some 0 := by
  rw [List.getElem?_append_left (by simp), List.getElem?_replicate, if_pos (by omega)]
theorem set_low (j z : Nat) (q : List Nat) : (List.replicate (j + 1) 0 ++ q).set j z = List.replicate j 0 ++ (z :: q) := by
  rw [show List.replicate (j + 1) 0 = List.replicate j 0 ++ [0] by rw [List.replicate_succ', ], List.append_assoc]
  have h := set_mid (List.replicate j 0) [] q 0 z
  simp only [List.length_replicate, List.length_nil, Nat.add_zero, List.nil_append] at h
  exact h
theorem or_words (r x : Nat) (hr : r < 4294967296) (hx : x < 4294967296) : bits BinOp.or IntKind.u64 ((r : Int) * 4294967296) (x : Int) = ((r * 4294967296 + x : Nat) : Int) := by
  have h1 : bits BinOp.or IntKind.u64 ((r * 4294967296 : Nat) : Int) (x : Int) = (((r * 4294967296) ||| x : Nat) : Int) := u64_or_nat (r * 4294967296) x (by omega) (by omega)
  have h2 : (r * 4294967296) ||| x = r * 4294967296 + x := by
    have := Nat.two_pow_add_eq_or_of_lt (i := 32) (b := x) (by simpa using hx) r
    rw [show (2 : Nat) ^ 32 = 4294967296 by decide, Nat.mul_comm] at this
    exact this.symm
  rw [h2] at h1
  rw [← h1]
  simp
set_option maxRecDepth 100000 in
set_option maxHeartbeats 8000000 in
theorem bdivSmall (va : Value) (m d : Nat) (w : World) (ha : Wd w va (words m)) (hm : (words m).length ≤ 549755813888) (hd : 0 < d) (hd2 : d < 4294967296) :
    Calls Tryz.prog 142 #[va, .int .u32 d] w fun e w' => ∃ v, e = .returned (.tuple #[v, .int .u32 ((m % d : Nat) : Int)]) ∧ Wd w' v (words (m / d)) ∧ Fresh w.heap.size v ∧ Below w.heap.size w w' := by
  have okm := words_ok m
  have vm := val_words m
  obtain ⟨a, ca, rfl, hca, hce⟩ := ha.form
  clear ha
  generalize words m = l at okm vm hca hce hm ⊢
  have HA := hid hce
  have OKl := hid okm
  have VM := hid vm
  clear hce okm vm
  obtain ⟨rr, hrr⟩ : ∃ rr, rr = m % d := ⟨_, rfl⟩
  rw [← hrr]
  have HRR := hid hrr
  clear hrr
  have ed : IntKind.u64.wrap (d : Int) = (d : Int) := by rw [IntKind.wrap_u64]; omega
  have ed0 : ¬ (d : Int) = 0 := by omega
  have ed1 : ((d : Int) == 0) = false := by simp; omega
  go_enter Tryz.func142, Tryz.ntmps142
  go_wp2_with (at_make; refine make_words _ rfl _ _ rfl _ l.length rfl rfl rfl (by omega) ?_; intro w1 hro hb1 hlt1)
  have RO : Hid (Ro w1 w.heap.size (List.replicate l.length 0 ++ [])) := hid (by rw [List.append_nil]; exact hro.out)
  have B1 := hid hb1
  clear hro hb1
  go_loopw [7, 8, 9] (fun s7 s8 s9 wr => ∃ (j r : Nat) (q : List Nat), s7 = .int .u64 r ∧ s8 = .int .i64 ((j : Int) - 1) ∧ j ≤ l.length ∧ r < d ∧ q.length + j = l.length ∧ Hid (Wok q) ∧ Hid (Ro wr w.heap.size (List.replicate j 0 ++ q)) ∧ Hid (val (l.drop j) = d * val q + r) ∧ Hid (Below w.heap.size w wr)) (fun s7 s8 s9 _ => (intOf s8 + 1).toNat)
  case atStart => exact ⟨l.length, 0, [], rfl, by first | rfl | simp, Nat.le_refl _, hd, by simp, hid Wok.nil, RO, hid (by rw [List.drop_length]; simp [val]), B1⟩
  case round =>
    obtain ⟨j, r, q, rfl, rfl, hj, hr, hql, hqk, hR, hS, hB⟩ := hrel
    haveI : Has wr w.heap.size := ⟨hR.out.lt⟩
    rcases Nat.eq_zero_or_pos j with rfl | hjp
    · have hR2 := hR.out
      rw [List.replicate_zero, List.nil_append] at hR2
      have hS2 := hS.out
      rw [List.drop_zero, VM.out] at hS2
      have hq1 : val q = m / d := by
        rw [hS2, Nat.mul_add_div hd, Nat.div_eq_of_lt hr, Nat.add_zero]
      have hr1 : rr = r := by
        rw [HRR.out, hS2, Nat.mul_add_mod, Nat.mod_eq_of_lt hr]
      have W2 : Hid (Wd wr (.slice (some ⟨w.heap.size, 0, none⟩) l.length l.length) q) := hid (by have := hR2.wd (cap := l.length) (by omega); rw [show q.length = l.length by omega] at this; exact this)
      have HV := hid hq1
      have HR1 := hid hr1
      have er : IntKind.u32.wrap (r : Int) = (r : Int) := by rw [IntKind.wrap_u32]; omega
      have hlen2 : q.length ≤ 1099511627776 := by omega
      clear hR2 hS2 hq1 hr1
      go_wp2_with fail
      refine (btrim _ _ _ W2.out hqk.out hlen2).mono ?_
      rintro e w' ⟨v, rfl, hw, hbl, rfl⟩
      rw [HV.out] at hw
      have HW := hid hw
      clear hw
      go_wp2_with fail
      go_ret2
      exact ⟨_, by rw [HR1.out]; rfl, HW.out, (Fresh.own (Nat.le_refl _)).of hbl, hB.out⟩
    · obtain ⟨i, rfl⟩ : ∃ i, j = i + 1 := ⟨j - 1, by omega⟩
      obtain ⟨ga, oa, rfl, hga, hxa⟩ := HA.out (by omega)
      have hx : l[i]? = some l[i] := List.getElem?_eq_getElem (by omega)
      obtain ⟨x, hxx⟩ : ∃ x, x = l[i] := ⟨_, rfl⟩
      rw [← hxx] at hx
      have hxB := OKl.out.get hx
      have cax := cell_below (hxa i x hx) hga hB.out
      haveI : Has wr ga := ⟨Nat.lt_of_lt_of_le hga hB.out.size⟩
      have co := hR.out.cell (get_low i q)
      have fo := hR.out.free i
      have hi0 : (0 : Int) ≤ (i : Int) := by omega
      have hil : (i : Int) < (l.length : Int) := by omega
      have e0 : ((i + 1 : Nat) : Int) - 1 = (i : Int) := by omega
      have e1 : IntKind.u64.wrap (x : Int) = (x : Int) := by rw [IntKind.wrap_u64]; omega
      obtain ⟨s1, s2, s3⟩ := quo_step hd (by omega) hS.out hr hxB
      rw [← val_drop hx] at s1
      have eo := or_words r x (by omega) hxB
      have esh : IntKind.u64.wrap ((r : Int) * 4294967296) = (r : Int) * 4294967296 := by rw [IntKind.wrap_u64]; omega
      obtain ⟨t, ht⟩ : ∃ t, t = r * 4294967296 + x := ⟨_, rfl⟩
      rw [← ht] at s1 s2 s3 eo
      have htB : t < 18446744073709551616 := by omega
      have q1 : (t : Int).tdiv (d : Int) = ((t / d : Nat) : Int) := by rw [Int.tdiv_eq_ediv_of_nonneg (by omega)]; simp
      have q2 : (t : Int) / (d : Int) = ((t / d : Nat) : Int) := by simp
      have q3 : (t : Int).tmod (d : Int) = ((t % d : Nat) : Int) := by rw [Int.tmod_eq_emod_of_nonneg (by omega)]; simp
      have q4 : (t : Int) % (d : Int) = ((t % d : Nat) : Int) := by simp
      have SN0 : val (l.drop i) = d * val (t / d :: q) + t % d := by rw [s1, val]
      obtain ⟨tq, htq⟩ : ∃ tq, tq = t / d := ⟨_, rfl⟩
      obtain ⟨tr, htr⟩ : ∃ tr, tr = t % d := ⟨_, rfl⟩
      rw [← htq] at q1 q2 s3 SN0
      rw [← htr] at q3 q4 s2 SN0
      have e5 : IntKind.u32.wrap (tq : Int) = (tq : Int) := by rw [IntKind.wrap_u32]; omega
      have e5b : IntKind.u64.wrap (tq : Int) = (tq : Int) := by rw [IntKind.wrap_u64]; omega
      have e5c : IntKind.u64.wrap (tr : Int) = (tr : Int) := by rw [IntKind.wrap_u64]; omega
      have RN : Hid (Ro (wr.setCell ⟨w.heap.size, i, none⟩ (.int .u32 (tq : Int))) w.heap.size (List.replicate i 0 ++ (tq :: q))) := hid (by have := hR.out.set i tq; rw [set_low] at this; exact this)
      have BN := hid (below_store (i := i) (v := .int .u32 (tq : Int)) hB.out (Nat.le_refl _))
      have QN : Hid (Wok (tq :: q)) := hid (Wok.cons s3 hqk.out)
      have SN := hid SN0
      clear s1 hx hxx hxa ht hR SN0 htq htr
      go_wp2_with fail
      go_roundw
      case rel => exact ⟨i, tr, tq :: q, by rfl, by first | rfl | simp, by omega, s2, by simp; omega, QN, RN, SN, BN⟩
      case measure => simp [intOf]
end Big
end
end Go.Proofs.YtcoillcppmibgaaGreatDoor
