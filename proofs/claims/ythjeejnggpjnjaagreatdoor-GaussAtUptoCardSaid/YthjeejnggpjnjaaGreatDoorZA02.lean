/- A part: E, F. -/
import Derived.Test.YthjeejnggpjnjaaGreatDoorZA01
import Derived.Laws.BitsAllLaws
set_option linter.unusedSimpArgs false
set_option linter.unusedVariables false
set_option maxRecDepth 100000
set_option maxHeartbeats 16000000
set_option synthInstance.maxHeartbeats 2000000
set_option synthInstance.maxSize 100000
namespace Go.Proofs.YthjeejnggpjnjaaGreatDoor
open Go.RowKit
theorem get_mid (A B C : List Nat) (d : Nat) : (A ++ (B ++ d :: C))[A.length + B.length]? = some d := by
 rw [List.getElem?_append_right (by omega), show A.length + B.length - A.length = B.length by omega, List.getElem?_append_right (Nat.le_refl _), Nat.sub_self]; rfl
theorem set_mid (A B C : List Nat) (d z : Nat) : (A ++ (B ++ d :: C)).set (A.length + B.length) z = A ++ ((B ++ [z]) ++ C) := by
 rw [List.set_append_right _ _ (by omega), show A.length + B.length - A.length = B.length by omega, List.set_append_right _ _ (Nat.le_refl _), Nat.sub_self, List.set_cons_zero]
 simp
theorem mul_words_lt {x y : Nat} (hx : x < 4294967296) (hy : y < 4294967296) : x * y ≤ 18446744065119617025 := Nat.mul_le_mul (show x ≤ 4294967295 by omega) (show y ≤ 4294967295 by omega)
theorem bplain (va vb : Value) (m n : Nat) (w : World) (ha : Wd w va (words m)) (hb : Wd w vb (words n)) (hm : (words m).length ≤ 274877906944) (hn : (words n).length ≤ 274877906944) :
 Calls Tryz.prog 194 #[va, vb] w fun e w' => ∃ v, e = .returned v ∧ Wd w' v (words (m * n)) ∧ Fresh w.heap.size v ∧ Below w.heap.size w w' := by
 have okm := words_ok m; have okn := words_ok n; have vm := val_words m; have vn := val_words n; obtain ⟨a, ca, rfl, hca, hce⟩ := ha.form; obtain ⟨b, cb, rfl, hcb, hcf⟩ := hb.form; clear ha hb; generalize words m = l at okm vm hca hce hm ⊢; generalize words n = k at okn vn hcb hcf hn ⊢; have HA := hid hce; have HB := hid hcf; have OKl := hid okm; have OKk := hid okn; have VM := hid vm; have VN := hid vn; clear hce hcf okm okn vm vn; go_enter Tryz.func194, Tryz.ntmps194; go_wp2_with (at_make; refine make_words _ rfl _ _ rfl _ (l.length + k.length) rfl rfl (by first | rfl | omega | simp) (by omega) ?_; intro w1 hro hb1 hlt1)
 have RO : Hid (Ro w1 w.heap.size (List.replicate k.length 0 ++ List.replicate l.length 0)) := hid (by rw [List.replicate_append_replicate, Nat.add_comm k.length]; exact hro.out)
 have B1 := hid hb1; clear hro hb1; go_loopw [6, 7, 8, 9, 10] (fun s6 s7 s8 s9 s10 wr => ∃ (i : Nat) (P : List Nat), s6 = .int .i64 i ∧ i ≤ l.length ∧ P.length = i + k.length ∧ Hid (Wok P) ∧ Hid (Ro wr w.heap.size (P ++ List.replicate (l.length - i) 0)) ∧ Hid (val P = val (l.take i) * val k) ∧ Hid (Below w.heap.size w wr)) (fun s6 s7 s8 s9 s10 _ => l.length - (intOf s6).toNat)
 case atStart => exact ⟨0, List.replicate k.length 0, rfl, Nat.zero_le _, by simp, hid (Wok.rep _), RO, hid (by rw [val_rep]; simp [val]), B1⟩
 case round =>
  obtain ⟨i, P, rfl, hi, hPl, hPok, hR, hS, hB⟩ := hrel; haveI : Has wr w.heap.size := ⟨hR.out.lt⟩; by_cases hil : i < l.length
  · obtain ⟨ga, oa, rfl, hga, hxa⟩ := HA.out (by omega)
    have hx : l[i]? = some l[i] := List.getElem?_eq_getElem hil; obtain ⟨x, hxx⟩ : ∃ x, x = l[i] := ⟨_, rfl⟩; rw [← hxx] at hx; have hxB := OKl.out.get hx; have ca := cell_below (hxa i x hx) hga hB.out; haveI : Has wr ga := ⟨Nat.lt_of_lt_of_le hga hB.out.size⟩; have hi0 : (0 : Int) ≤ (i : Int) := by omega
    have hil' : (i : Int) < (l.length : Int) := by omega
    have e1 : IntKind.u64.wrap (x : Int) = (x : Int) := by rw [IntKind.wrap_u64]; omega
    obtain ⟨A0, hA0⟩ : ∃ A0, A0 = P.take i := ⟨_, rfl⟩; obtain ⟨D, hD⟩ : ∃ D, D = P.drop i := ⟨_, rfl⟩; have hPA : P = A0 ++ D := by rw [hA0, hD, List.take_append_drop]
    have hA0l : A0.length = i := by rw [hA0, List.length_take]; omega
    have hDl : D.length = k.length := by rw [hD, List.length_drop]; omega
    have hDok : Wok D := by rw [hD]; exact hPok.out.drop i
    have hA0ok : Wok A0 := by rw [hA0]; exact hPok.out.take i
    obtain ⟨nz, hnz⟩ : ∃ nz, l.length - i = nz + 1 := ⟨l.length - i - 1, by omega⟩
    have HX := hid hx; have DOK := hid hDok; have AOK := hid hA0ok; have HPA := hid hPA; have R0 : Hid (Ro wr w.heap.size (A0 ++ ([] ++ (D ++ List.replicate (nz + 1) 0)))) := hid (by have := hR.out; rw [hnz, hPA, List.append_assoc] at this; exact this)
    clear hx hxx hxa hDok hA0ok hA0 hD hPA hR; go_wp2_with fail
    go_loopw [7, 9, 10] (fun s7 s9 s10 wr => ∃ (j cy : Nat) (o : List Nat), s7 = .int .u64 cy ∧ s9 = .int .i64 j ∧ j ≤ k.length ∧ cy < 4294967296 ∧ o.length = j ∧ Hid (Wok o) ∧ Hid (Ro wr w.heap.size (A0 ++ (o ++ (D.drop j ++ List.replicate (nz + 1) 0)))) ∧ Hid (val o + 4294967296 ^ j * cy = val (D.take j) + x * val (k.take j)) ∧ Hid (Below w.heap.size w wr)) (fun s7 s9 s10 _ => k.length - (intOf s9).toNat)
    case atStart => exact ⟨0, 0, [], rfl, rfl, Nat.zero_le _, by omega, rfl, hid Wok.nil, R0, hid rfl, hB⟩
    case round =>
     obtain ⟨j, cy, o, rfl, rfl, hj, hcy, hol, hok, hR, hT, hB⟩ := hrel; haveI : Has wr w.heap.size := ⟨hR.out.lt⟩; by_cases hjk : j < k.length
     · obtain ⟨gb, ob, rfl, hgb, hxb⟩ := HB.out (by omega)
       have hy : k[j]? = some k[j] := List.getElem?_eq_getElem hjk; obtain ⟨y, hyy⟩ : ∃ y, y = k[j] := ⟨_, rfl⟩; rw [← hyy] at hy; have hyB := OKk.out.get hy; have cb := cell_below (hxb j y hy) hgb hB.out; haveI : Has wr gb := ⟨Nat.lt_of_lt_of_le hgb hB.out.size⟩; have hd : D[j]? = some D[j] := List.getElem?_eq_getElem (by omega)
       have hdr := List.drop_eq_getElem_cons (show j < D.length by omega)
       obtain ⟨d, hdd⟩ : ∃ d, d = D[j] := ⟨_, rfl⟩; rw [← hdd] at hd hdr; have hdB := DOK.out.get hd; have hR2 := hR.out; rw [hdr, List.cons_append] at hR2; have co := hR2.cell (get_mid A0 o (D.drop (j + 1) ++ List.replicate (nz + 1) 0) d); have fo := hR2.free (A0.length + o.length); obtain ⟨q, hq⟩ : ∃ q, q = i + j := ⟨_, rfl⟩; have hql : A0.length + o.length = q := by omega
       rw [hql] at co fo; have q1 : IntKind.i64.wrap ((i : Int) + (j : Int)) = (q : Int) := by rw [show (i : Int) + (j : Int) = (q : Int) by omega]; exact IntWalk.i64_in _ (by omega)
       have q2 : (i : Int) + (j : Int) = (q : Int) := by omega
       have q3 : (0 : Int) ≤ (q : Int) := by omega
       have q4 : (q : Int) < (l.length : Int) + (k.length : Int) := by omega
       have q5 : q < l.length + k.length := by omega
       have hj0 : (0 : Int) ≤ (j : Int) := by omega
       have hjk' : (j : Int) < (k.length : Int) := by omega
       have hxyB := mul_words_lt hxB hyB; obtain ⟨xy, hxy⟩ : ∃ xy, xy = x * y := ⟨_, rfl⟩; have hxyI : (x : Int) * (y : Int) = (xy : Int) := by rw [hxy]; simp
       obtain ⟨t, ht⟩ : ∃ t, t = cy + (d + xy) := ⟨_, rfl⟩; have st := carry_step hol hT.out t ht
       have ST : Hid (val (o ++ [t % 4294967296]) + 4294967296 ^ (j + 1) * (t / 4294967296) = val (D.take (j + 1)) + x * val (k.take (j + 1))) := hid (by
        rw [st, val_take hd, val_take hy, Nat.mul_add, Nat.mul_add, hxy, show x * (4294967296 ^ j * y) = 4294967296 ^ j * (x * y) by rw [← Nat.mul_assoc, Nat.mul_comm x, Nat.mul_assoc]]; omega)
       rw [← hxy] at hxyB; have htB : t / 4294967296 < 4294967296 := by omega
       have e2 : IntKind.u64.wrap (y : Int) = (y : Int) := by rw [IntKind.wrap_u64]; omega
       have e3 : IntKind.u64.wrap ((x : Int) * (y : Int)) = (xy : Int) := by rw [hxyI, IntKind.wrap_u64]; omega
       have e3d : IntKind.u64.wrap (d : Int) = (d : Int) := by rw [IntKind.wrap_u64]; omega
       have e4 : IntKind.u64.wrap ((xy : Int) + (d : Int)) = ((xy + d : Nat) : Int) := by rw [IntKind.wrap_u64]; omega
       have e4c : IntKind.u64.wrap (((xy + d : Nat) : Int) + (cy : Int)) = (t : Int) := by rw [IntKind.wrap_u64]; omega
       have e5 : IntKind.u32.wrap (t : Int) = ((t % 4294967296 : Nat) : Int) := by rw [IntKind.wrap_u32]; omega
       have e6 : (t : Int) / 4294967296 = ((t / 4294967296 : Nat) : Int) := by omega
       have e6b : (t : Int) % 4294967296 = ((t % 4294967296 : Nat) : Int) := by omega
       have e4b : (xy : Int) + (d : Int) + (cy : Int) = (t : Int) := by omega
       have RN : Hid (Ro ((wr.drewN 1).setCell ⟨w.heap.size, q, none⟩ (.int .u32 ((t % 4294967296 : Nat) : Int))) w.heap.size (A0 ++ ((o ++ [t % 4294967296]) ++ (D.drop (j + 1) ++ List.replicate (nz + 1) 0)))) := hid (by
        have := hR2.set (A0.length + o.length) (t % 4294967296); rw [set_mid, hql] at this; exact this)
       have RNq : ∀ z, Hid (Ro ((wr.drewN z).setCell ⟨w.heap.size, q, none⟩ (.int .u32 ((t % 4294967296 : Nat) : Int))) w.heap.size (A0 ++ ((o ++ [t % 4294967296]) ++ (D.drop (j + 1) ++ List.replicate (nz + 1) 0)))) := fun z => hid (by
        have := (show Ro (wr.drewN z) w.heap.size _ from hR2).set (A0.length + o.length) (t % 4294967296); rw [set_mid, hql] at this; exact this)
       have ON : Hid (Wok (o ++ [t % 4294967296])) := hid (hok.out.append (Wok.cons (Nat.mod_lt _ (by decide)) Wok.nil))
       have BNq : ∀ z, Hid (Below w.heap.size w ((wr.drewN z).setCell ⟨w.heap.size, q, none⟩ (.int .u32 ((t % 4294967296 : Nat) : Int)))) := fun z => hid (((Keeps.of_below (S := []) hB.out).drewN z |>.set (Or.inr (Nat.le_refl _)) _ _).below)
       have hon : (o ++ [t % 4294967296]).length = j + 1 := by simp [hol]
       have RQ := hid RNq; have BQ := hid BNq; clear st hd hdr hdd hy hyy hxb hR2 ht hxy hxyI hql hq RN RNq BNq; generalize t % 4294967296 = tl at e5 e6b RQ ON BQ hon ST ⊢; generalize t / 4294967296 = th at e6 htB ST ⊢; go_wp2_with fail
       go_quiet (fail)
       go_wp2_with fail
       go_roundw
       case rel => exact ⟨j + 1, th, o ++ [tl], by rfl, by rfl, by omega, htB, hon, ON, RQ.out _, ST, BQ.out _⟩
       case measure => simp [intOf]; omega
     · obtain rfl : j = k.length := by omega
       have hR2 := hR.out; rw [← hDl, List.drop_length, List.nil_append, List.replicate_succ] at hR2; have co := hR2.cell (get_mid A0 o (List.replicate nz 0) 0); have fo := hR2.free (A0.length + o.length); obtain ⟨q, hq⟩ : ∃ q, q = i + k.length := ⟨_, rfl⟩; have hql : A0.length + o.length = q := by omega
       have hRN := hR2.set (A0.length + o.length) cy; rw [set_mid, hql] at hRN; rw [hql] at co fo; have q2 : (i : Int) + (k.length : Int) = (q : Int) := by omega
       have q3 : (0 : Int) ≤ (q : Int) := by omega
       have q4 : (q : Int) < (l.length : Int) + (k.length : Int) := by omega
       have q5 : q < l.length + k.length := by omega
       have e5 : IntKind.u32.wrap (cy : Int) = (cy : Int) := by rw [IntKind.wrap_u32]; omega
       have RN : Hid (Ro (wr.setCell ⟨w.heap.size, q, none⟩ (.int .u32 (cy : Int))) w.heap.size ((A0 ++ (o ++ [cy])) ++ List.replicate (l.length - (i + 1)) 0)) := hid (by
        rw [show l.length - (i + 1) = nz by omega, List.append_assoc]; exact hRN)
       have BN := hid (below_store (i := q) (v := .int .u32 (cy : Int)) hB.out (Nat.le_refl _)); have PN : Hid (Wok (A0 ++ (o ++ [cy]))) := hid (AOK.out.append (hok.out.append (Wok.cons hcy Wok.nil)))
       have SN : Hid (val (A0 ++ (o ++ [cy])) = val (l.take (i + 1)) * val k) := hid (by
        have h1 := hT.out; rw [← hDl, List.take_length, hDl, List.take_length] at h1; have h2 := hS.out; rw [HPA.out, val_append, hA0l] at h2; have e : val [cy] = cy := by simp [val]
        rw [val_append, hA0l, val_append, hol, e, h1, val_take HX.out, Nat.add_mul, Nat.mul_add, ← h2, Nat.mul_assoc]
        omega)
       have PL : (A0 ++ (o ++ [cy])).length = i + 1 + k.length := by simp [hA0l, hol]; omega
       clear hR2 hRN hql hq; go_wp2_with fail
       go_roundw
       case rel => exact ⟨i + 1, A0 ++ (o ++ [cy]), by rfl, by omega, PL, PN, RN, SN, BN⟩
       case measure => simp [intOf]; omega
  · obtain rfl : i = l.length := by omega
    have hR2 := hR.out; rw [Nat.sub_self, List.replicate_zero, List.append_nil] at hR2
    have hval : val P = m * n := by
     have := hS.out; rw [List.take_length, VM.out, VN.out] at this; exact this
    have W2 : Hid (Wd wr (.slice (some ⟨w.heap.size, 0, none⟩) (l.length + k.length) (l.length + k.length)) P) := hid (by have := hR2.wd (cap := l.length + k.length) (by omega); rw [hPl] at this; exact this)
    have HV := hid hval; have hlen2 : P.length ≤ 1099511627776 := by omega
    clear hR2 hval; go_wp2_with fail
    refine (btrim _ _ _ W2.out hPok.out hlen2).mono ?_
    rintro e w' ⟨v, rfl, hw, hbl, rfl⟩; rw [HV.out] at hw; have HW := hid hw; clear hw; go_wp2_with fail
    go_ret
    exact ⟨_, rfl, HW.out, (Fresh.own (Nat.le_refl _)).of hbl, hB.out⟩
theorem eplain (va vb : Value) (m n : Nat) (w : World) (ha : Wd w va (words m)) (hb : Wd w vb (words n)) (hm : (words m).length ≤ 274877906944) (hn : (words n).length ≤ 274877906944) :
 Calls Tryz.prog 147 #[va, vb] w fun e w' => ∃ v, e = .returned v ∧ Wd w' v (words (m * n)) ∧ Fresh w.heap.size v ∧ Below w.heap.size w w' := by
 have okm := words_ok m; have okn := words_ok n; have vm := val_words m; have vn := val_words n; obtain ⟨a, ca, rfl, hca, hce⟩ := ha.form; obtain ⟨b, cb, rfl, hcb, hcf⟩ := hb.form; clear ha hb; generalize words m = l at okm vm hca hce hm ⊢; generalize words n = k at okn vn hcb hcf hn ⊢; have HA := hid hce; have HB := hid hcf; have OKl := hid okm; have OKk := hid okn; have VM := hid vm; have VN := hid vn; clear hce hcf okm okn vm vn; go_enter Tryz.func147, Tryz.ntmps147; go_wp2_with (at_make; refine make_words _ rfl _ _ rfl _ (l.length + k.length) rfl rfl (by first | rfl | omega | simp) (by omega) ?_; intro w1 hro hb1 hlt1)
 have RO : Hid (Ro w1 w.heap.size (List.replicate k.length 0 ++ List.replicate l.length 0)) := hid (by rw [List.replicate_append_replicate, Nat.add_comm k.length]; exact hro.out)
 have B1 := hid hb1; clear hro hb1; go_loopw [6, 7, 8, 9, 10] (fun s6 s7 s8 s9 s10 wr => ∃ (i : Nat) (P : List Nat), s6 = .int .i64 i ∧ i ≤ l.length ∧ P.length = i + k.length ∧ Hid (Wok P) ∧ Hid (Ro wr w.heap.size (P ++ List.replicate (l.length - i) 0)) ∧ Hid (val P = val (l.take i) * val k) ∧ Hid (Below w.heap.size w wr)) (fun s6 s7 s8 s9 s10 _ => l.length - (intOf s6).toNat)
 case atStart => exact ⟨0, List.replicate k.length 0, rfl, Nat.zero_le _, by simp, hid (Wok.rep _), RO, hid (by rw [val_rep]; simp [val]), B1⟩
 case round =>
  obtain ⟨i, P, rfl, hi, hPl, hPok, hR, hS, hB⟩ := hrel; haveI : Has wr w.heap.size := ⟨hR.out.lt⟩; by_cases hil : i < l.length
  · obtain ⟨ga, oa, rfl, hga, hxa⟩ := HA.out (by omega)
    have hx : l[i]? = some l[i] := List.getElem?_eq_getElem hil; obtain ⟨x, hxx⟩ : ∃ x, x = l[i] := ⟨_, rfl⟩; rw [← hxx] at hx; have hxB := OKl.out.get hx; have ca := cell_below (hxa i x hx) hga hB.out; haveI : Has wr ga := ⟨Nat.lt_of_lt_of_le hga hB.out.size⟩; have hi0 : (0 : Int) ≤ (i : Int) := by omega
    have hil' : (i : Int) < (l.length : Int) := by omega
    have e1 : IntKind.u64.wrap (x : Int) = (x : Int) := by rw [IntKind.wrap_u64]; omega
    obtain ⟨A0, hA0⟩ : ∃ A0, A0 = P.take i := ⟨_, rfl⟩; obtain ⟨D, hD⟩ : ∃ D, D = P.drop i := ⟨_, rfl⟩; have hPA : P = A0 ++ D := by rw [hA0, hD, List.take_append_drop]
    have hA0l : A0.length = i := by rw [hA0, List.length_take]; omega
    have hDl : D.length = k.length := by rw [hD, List.length_drop]; omega
    have hDok : Wok D := by rw [hD]; exact hPok.out.drop i
    have hA0ok : Wok A0 := by rw [hA0]; exact hPok.out.take i
    obtain ⟨nz, hnz⟩ : ∃ nz, l.length - i = nz + 1 := ⟨l.length - i - 1, by omega⟩
    have HX := hid hx; have DOK := hid hDok; have AOK := hid hA0ok; have HPA := hid hPA; have R0 : Hid (Ro wr w.heap.size (A0 ++ ([] ++ (D ++ List.replicate (nz + 1) 0)))) := hid (by have := hR.out; rw [hnz, hPA, List.append_assoc] at this; exact this)
    clear hx hxx hxa hDok hA0ok hA0 hD hPA hR; go_wp2_with fail
    go_loopw [7, 9, 10] (fun s7 s9 s10 wr => ∃ (j cy : Nat) (o : List Nat), s7 = .int .u64 cy ∧ s9 = .int .i64 j ∧ j ≤ k.length ∧ cy < 4294967296 ∧ o.length = j ∧ Hid (Wok o) ∧ Hid (Ro wr w.heap.size (A0 ++ (o ++ (D.drop j ++ List.replicate (nz + 1) 0)))) ∧ Hid (val o + 4294967296 ^ j * cy = val (D.take j) + x * val (k.take j)) ∧ Hid (Below w.heap.size w wr)) (fun s7 s9 s10 _ => k.length - (intOf s9).toNat)
    case atStart => exact ⟨0, 0, [], rfl, rfl, Nat.zero_le _, by omega, rfl, hid Wok.nil, R0, hid rfl, hB⟩
    case round =>
     obtain ⟨j, cy, o, rfl, rfl, hj, hcy, hol, hok, hR, hT, hB⟩ := hrel; haveI : Has wr w.heap.size := ⟨hR.out.lt⟩; by_cases hjk : j < k.length
     · obtain ⟨gb, ob, rfl, hgb, hxb⟩ := HB.out (by omega)
       have hy : k[j]? = some k[j] := List.getElem?_eq_getElem hjk; obtain ⟨y, hyy⟩ : ∃ y, y = k[j] := ⟨_, rfl⟩; rw [← hyy] at hy; have hyB := OKk.out.get hy; have cb := cell_below (hxb j y hy) hgb hB.out; haveI : Has wr gb := ⟨Nat.lt_of_lt_of_le hgb hB.out.size⟩; have hd : D[j]? = some D[j] := List.getElem?_eq_getElem (by omega)
       have hdr := List.drop_eq_getElem_cons (show j < D.length by omega)
       obtain ⟨d, hdd⟩ : ∃ d, d = D[j] := ⟨_, rfl⟩; rw [← hdd] at hd hdr; have hdB := DOK.out.get hd; have hR2 := hR.out; rw [hdr, List.cons_append] at hR2; have co := hR2.cell (get_mid A0 o (D.drop (j + 1) ++ List.replicate (nz + 1) 0) d); have fo := hR2.free (A0.length + o.length); obtain ⟨q, hq⟩ : ∃ q, q = i + j := ⟨_, rfl⟩; have hql : A0.length + o.length = q := by omega
       rw [hql] at co fo; have q1 : IntKind.i64.wrap ((i : Int) + (j : Int)) = (q : Int) := by rw [show (i : Int) + (j : Int) = (q : Int) by omega]; exact IntWalk.i64_in _ (by omega)
       have q2 : (i : Int) + (j : Int) = (q : Int) := by omega
       have q3 : (0 : Int) ≤ (q : Int) := by omega
       have q4 : (q : Int) < (l.length : Int) + (k.length : Int) := by omega
       have q5 : q < l.length + k.length := by omega
       have hj0 : (0 : Int) ≤ (j : Int) := by omega
       have hjk' : (j : Int) < (k.length : Int) := by omega
       have hxyB := mul_words_lt hxB hyB; obtain ⟨xy, hxy⟩ : ∃ xy, xy = x * y := ⟨_, rfl⟩; have hxyI : (x : Int) * (y : Int) = (xy : Int) := by rw [hxy]; simp
       obtain ⟨t, ht⟩ : ∃ t, t = cy + (d + xy) := ⟨_, rfl⟩; have st := carry_step hol hT.out t ht
       have ST : Hid (val (o ++ [t % 4294967296]) + 4294967296 ^ (j + 1) * (t / 4294967296) = val (D.take (j + 1)) + x * val (k.take (j + 1))) := hid (by
        rw [st, val_take hd, val_take hy, Nat.mul_add, Nat.mul_add, hxy, show x * (4294967296 ^ j * y) = 4294967296 ^ j * (x * y) by rw [← Nat.mul_assoc, Nat.mul_comm x, Nat.mul_assoc]]; omega)
       rw [← hxy] at hxyB; have htB : t / 4294967296 < 4294967296 := by omega
       have e2 : IntKind.u64.wrap (y : Int) = (y : Int) := by rw [IntKind.wrap_u64]; omega
       have e3 : IntKind.u64.wrap ((x : Int) * (y : Int)) = (xy : Int) := by rw [hxyI, IntKind.wrap_u64]; omega
       have e3d : IntKind.u64.wrap (d : Int) = (d : Int) := by rw [IntKind.wrap_u64]; omega
       have e4 : IntKind.u64.wrap ((xy : Int) + (d : Int)) = ((xy + d : Nat) : Int) := by rw [IntKind.wrap_u64]; omega
       have e4c : IntKind.u64.wrap (((xy + d : Nat) : Int) + (cy : Int)) = (t : Int) := by rw [IntKind.wrap_u64]; omega
       have e5 : IntKind.u32.wrap (t : Int) = ((t % 4294967296 : Nat) : Int) := by rw [IntKind.wrap_u32]; omega
       have e6 : (t : Int) / 4294967296 = ((t / 4294967296 : Nat) : Int) := by omega
       have e6b : (t : Int) % 4294967296 = ((t % 4294967296 : Nat) : Int) := by omega
       have e4b : (xy : Int) + (d : Int) + (cy : Int) = (t : Int) := by omega
       have RN : Hid (Ro ((wr.drewN 1).setCell ⟨w.heap.size, q, none⟩ (.int .u32 ((t % 4294967296 : Nat) : Int))) w.heap.size (A0 ++ ((o ++ [t % 4294967296]) ++ (D.drop (j + 1) ++ List.replicate (nz + 1) 0)))) := hid (by
        have := hR2.set (A0.length + o.length) (t % 4294967296); rw [set_mid, hql] at this; exact this)
       have RNq : ∀ z, Hid (Ro ((wr.drewN z).setCell ⟨w.heap.size, q, none⟩ (.int .u32 ((t % 4294967296 : Nat) : Int))) w.heap.size (A0 ++ ((o ++ [t % 4294967296]) ++ (D.drop (j + 1) ++ List.replicate (nz + 1) 0)))) := fun z => hid (by
        have := (show Ro (wr.drewN z) w.heap.size _ from hR2).set (A0.length + o.length) (t % 4294967296); rw [set_mid, hql] at this; exact this)
       have ON : Hid (Wok (o ++ [t % 4294967296])) := hid (hok.out.append (Wok.cons (Nat.mod_lt _ (by decide)) Wok.nil))
       have BNq : ∀ z, Hid (Below w.heap.size w ((wr.drewN z).setCell ⟨w.heap.size, q, none⟩ (.int .u32 ((t % 4294967296 : Nat) : Int)))) := fun z => hid (((Keeps.of_below (S := []) hB.out).drewN z |>.set (Or.inr (Nat.le_refl _)) _ _).below)
       have hon : (o ++ [t % 4294967296]).length = j + 1 := by simp [hol]
       have RQ := hid RNq; have BQ := hid BNq; clear st hd hdr hdd hy hyy hxb hR2 ht hxy hxyI hql hq RN RNq BNq; generalize t % 4294967296 = tl at e5 e6b RQ ON BQ hon ST ⊢; generalize t / 4294967296 = th at e6 htB ST ⊢; go_wp2_with fail
       go_quiet (fail)
       go_wp2_with fail
       go_roundw
       case rel => exact ⟨j + 1, th, o ++ [tl], by rfl, by rfl, by omega, htB, hon, ON, RQ.out _, ST, BQ.out _⟩
       case measure => simp [intOf]; omega
     · obtain rfl : j = k.length := by omega
       have hR2 := hR.out; rw [← hDl, List.drop_length, List.nil_append, List.replicate_succ] at hR2; have co := hR2.cell (get_mid A0 o (List.replicate nz 0) 0); have fo := hR2.free (A0.length + o.length); obtain ⟨q, hq⟩ : ∃ q, q = i + k.length := ⟨_, rfl⟩; have hql : A0.length + o.length = q := by omega
       have hRN := hR2.set (A0.length + o.length) cy; rw [set_mid, hql] at hRN; rw [hql] at co fo; have q2 : (i : Int) + (k.length : Int) = (q : Int) := by omega
       have q3 : (0 : Int) ≤ (q : Int) := by omega
       have q4 : (q : Int) < (l.length : Int) + (k.length : Int) := by omega
       have q5 : q < l.length + k.length := by omega
       have e5 : IntKind.u32.wrap (cy : Int) = (cy : Int) := by rw [IntKind.wrap_u32]; omega
       have RN : Hid (Ro (wr.setCell ⟨w.heap.size, q, none⟩ (.int .u32 (cy : Int))) w.heap.size ((A0 ++ (o ++ [cy])) ++ List.replicate (l.length - (i + 1)) 0)) := hid (by
        rw [show l.length - (i + 1) = nz by omega, List.append_assoc]; exact hRN)
       have BN := hid (below_store (i := q) (v := .int .u32 (cy : Int)) hB.out (Nat.le_refl _)); have PN : Hid (Wok (A0 ++ (o ++ [cy]))) := hid (AOK.out.append (hok.out.append (Wok.cons hcy Wok.nil)))
       have SN : Hid (val (A0 ++ (o ++ [cy])) = val (l.take (i + 1)) * val k) := hid (by
        have h1 := hT.out; rw [← hDl, List.take_length, hDl, List.take_length] at h1; have h2 := hS.out; rw [HPA.out, val_append, hA0l] at h2; have e : val [cy] = cy := by simp [val]
        rw [val_append, hA0l, val_append, hol, e, h1, val_take HX.out, Nat.add_mul, Nat.mul_add, ← h2, Nat.mul_assoc]
        omega)
       have PL : (A0 ++ (o ++ [cy])).length = i + 1 + k.length := by simp [hA0l, hol]; omega
       clear hR2 hRN hql hq; go_wp2_with fail
       go_roundw
       case rel => exact ⟨i + 1, A0 ++ (o ++ [cy]), by rfl, by omega, PL, PN, RN, SN, BN⟩
       case measure => simp [intOf]; omega
  · obtain rfl : i = l.length := by omega
    have hR2 := hR.out; rw [Nat.sub_self, List.replicate_zero, List.append_nil] at hR2
    have hval : val P = m * n := by
     have := hS.out; rw [List.take_length, VM.out, VN.out] at this; exact this
    have W2 : Hid (Wd wr (.slice (some ⟨w.heap.size, 0, none⟩) (l.length + k.length) (l.length + k.length)) P) := hid (by have := hR2.wd (cap := l.length + k.length) (by omega); rw [hPl] at this; exact this)
    have HV := hid hval; have hlen2 : P.length ≤ 1099511627776 := by omega
    clear hR2 hval; go_wp2_with fail
    refine (etrim _ _ _ W2.out hPok.out hlen2).mono ?_
    rintro e w' ⟨v, rfl, hw, hbl, rfl⟩; rw [HV.out] at hw; have HW := hid hw; clear hw; go_wp2_with fail
    go_ret
    exact ⟨_, rfl, HW.out, (Fresh.own (Nat.le_refl _)).of hbl, hB.out⟩
theorem get_low (j : Nat) (q : List Nat) : (List.replicate (j + 1) 0 ++ q)[j]? = some 0 := by
 rw [List.getElem?_append_left (by simp), List.getElem?_replicate, if_pos (by omega)]
theorem set_low (j z : Nat) (q : List Nat) : (List.replicate (j + 1) 0 ++ q).set j z = List.replicate j 0 ++ (z :: q) := by
 rw [show List.replicate (j + 1) 0 = List.replicate j 0 ++ [0] by rw [List.replicate_succ', ], List.append_assoc]
 have h := set_mid (List.replicate j 0) [] q 0 z; simp only [List.length_replicate, List.length_nil, Nat.add_zero, List.nil_append] at h; exact h
theorem or_words (r x : Nat) (hr : r < 4294967296) (hx : x < 4294967296) : bits BinOp.or IntKind.u64 ((r : Int) * 4294967296) (x : Int) = ((r * 4294967296 + x : Nat) : Int) := by
 have h1 : bits BinOp.or IntKind.u64 ((r * 4294967296 : Nat) : Int) (x : Int) = (((r * 4294967296) ||| x : Nat) : Int) := u64_or_nat (r * 4294967296) x (by omega) (by omega)
 have h2 : (r * 4294967296) ||| x = r * 4294967296 + x := by
  have := Nat.two_pow_add_eq_or_of_lt (i := 32) (b := x) (by simpa using hx) r
  rw [show (2 : Nat) ^ 32 = 4294967296 by decide, Nat.mul_comm] at this
  exact this.symm
 rw [h2] at h1; rw [← h1]
 simp
set_option maxHeartbeats 8000000 in
theorem bdivSmall (va : Value) (m d : Nat) (w : World) (ha : Wd w va (words m)) (hm : (words m).length ≤ 549755813888) (hd : 0 < d) (hd2 : d < 4294967296) :
 Calls Tryz.prog 215 #[va, .int .u32 d] w fun e w' => ∃ v, e = .returned (.tuple #[v, .int .u32 ((m % d : Nat) : Int)]) ∧ Wd w' v (words (m / d)) ∧ Fresh w.heap.size v ∧ Below w.heap.size w w' := by
 have okm := words_ok m; have vm := val_words m; obtain ⟨a, ca, rfl, hca, hce⟩ := ha.form; clear ha; generalize words m = l at okm vm hca hce hm ⊢; have HA := hid hce; have OKl := hid okm; have VM := hid vm; clear hce okm vm; obtain ⟨rr, hrr⟩ : ∃ rr, rr = m % d := ⟨_, rfl⟩; rw [← hrr]; have HRR := hid hrr; clear hrr; have ed : IntKind.u64.wrap (d : Int) = (d : Int) := by rw [IntKind.wrap_u64]; omega
 have ed0 : ¬ (d : Int) = 0 := by omega
 have ed1 : ((d : Int) == 0) = false := by simp; omega
 go_enter Tryz.func215, Tryz.ntmps215; go_wp2_with (at_make; refine make_words _ rfl _ _ rfl _ l.length rfl rfl rfl (by omega) ?_; intro w1 hro hb1 hlt1)
 have RO : Hid (Ro w1 w.heap.size (List.replicate l.length 0 ++ [])) := hid (by rw [List.append_nil]; exact hro.out)
 have B1 := hid hb1; clear hro hb1; go_loopw [7, 8, 9] (fun s7 s8 s9 wr => ∃ (j r : Nat) (q : List Nat), s7 = .int .u64 r ∧ s8 = .int .i64 ((j : Int) - 1) ∧ j ≤ l.length ∧ r < d ∧ q.length + j = l.length ∧ Hid (Wok q) ∧ Hid (Ro wr w.heap.size (List.replicate j 0 ++ q)) ∧ Hid (val (l.drop j) = d * val q + r) ∧ Hid (Below w.heap.size w wr)) (fun s7 s8 s9 _ => (intOf s8 + 1).toNat)
 case atStart => exact ⟨l.length, 0, [], rfl, by first | rfl | simp, Nat.le_refl _, hd, by simp, hid Wok.nil, RO, hid (by rw [List.drop_length]; simp [val]), B1⟩
 case round =>
  obtain ⟨j, r, q, rfl, rfl, hj, hr, hql, hqk, hR, hS, hB⟩ := hrel; haveI : Has wr w.heap.size := ⟨hR.out.lt⟩; rcases Nat.eq_zero_or_pos j with rfl | hjp
  · have hR2 := hR.out; rw [List.replicate_zero, List.nil_append] at hR2; have hS2 := hS.out; rw [List.drop_zero, VM.out] at hS2
    have hq1 : val q = m / d := by
     rw [hS2, Nat.mul_add_div hd, Nat.div_eq_of_lt hr, Nat.add_zero]
    have hr1 : rr = r := by
     rw [HRR.out, hS2, Nat.mul_add_mod, Nat.mod_eq_of_lt hr]
    have W2 : Hid (Wd wr (.slice (some ⟨w.heap.size, 0, none⟩) l.length l.length) q) := hid (by have := hR2.wd (cap := l.length) (by omega); rw [show q.length = l.length by omega] at this; exact this)
    have HV := hid hq1; have HR1 := hid hr1; have er : IntKind.u32.wrap (r : Int) = (r : Int) := by rw [IntKind.wrap_u32]; omega
    have hlen2 : q.length ≤ 1099511627776 := by omega
    clear hR2 hS2 hq1 hr1; go_wp2_with fail
    refine (btrim _ _ _ W2.out hqk.out hlen2).mono ?_
    rintro e w' ⟨v, rfl, hw, hbl, rfl⟩; rw [HV.out] at hw; have HW := hid hw; clear hw; go_wp2_with fail
    go_ret2
    exact ⟨_, by rw [HR1.out]; rfl, HW.out, (Fresh.own (Nat.le_refl _)).of hbl, hB.out⟩
  · obtain ⟨i, rfl⟩ : ∃ i, j = i + 1 := ⟨j - 1, by omega⟩
    obtain ⟨ga, oa, rfl, hga, hxa⟩ := HA.out (by omega)
    have hx : l[i]? = some l[i] := List.getElem?_eq_getElem (by omega)
    obtain ⟨x, hxx⟩ : ∃ x, x = l[i] := ⟨_, rfl⟩; rw [← hxx] at hx; have hxB := OKl.out.get hx; have cax := cell_below (hxa i x hx) hga hB.out; haveI : Has wr ga := ⟨Nat.lt_of_lt_of_le hga hB.out.size⟩; have co := hR.out.cell (get_low i q); have fo := hR.out.free i; have hi0 : (0 : Int) ≤ (i : Int) := by omega
    have hil : (i : Int) < (l.length : Int) := by omega
    have e0 : ((i + 1 : Nat) : Int) - 1 = (i : Int) := by omega
    have e1 : IntKind.u64.wrap (x : Int) = (x : Int) := by rw [IntKind.wrap_u64]; omega
    obtain ⟨s1, s2, s3⟩ := quo_step hd (by omega) hS.out hr hxB
    rw [← val_drop hx] at s1; have eo := or_words r x (by omega) hxB
    have esh : IntKind.u64.wrap ((r : Int) * 4294967296) = (r : Int) * 4294967296 := by rw [IntKind.wrap_u64]; omega
    obtain ⟨t, ht⟩ : ∃ t, t = r * 4294967296 + x := ⟨_, rfl⟩; rw [← ht] at s1 s2 s3 eo; have htB : t < 18446744073709551616 := by omega
    have q1 : (t : Int).tdiv (d : Int) = ((t / d : Nat) : Int) := by rw [Int.tdiv_eq_ediv_of_nonneg (by omega)]; simp
    have q2 : (t : Int) / (d : Int) = ((t / d : Nat) : Int) := by simp
    have q3 : (t : Int).tmod (d : Int) = ((t % d : Nat) : Int) := by rw [Int.tmod_eq_emod_of_nonneg (by omega)]; simp
    have q4 : (t : Int) % (d : Int) = ((t % d : Nat) : Int) := by simp
    have SN0 : val (l.drop i) = d * val (t / d :: q) + t % d := by rw [s1, val]
    obtain ⟨tq, htq⟩ : ∃ tq, tq = t / d := ⟨_, rfl⟩; obtain ⟨tr, htr⟩ : ∃ tr, tr = t % d := ⟨_, rfl⟩; rw [← htq] at q1 q2 s3 SN0; rw [← htr] at q3 q4 s2 SN0; have e5 : IntKind.u32.wrap (tq : Int) = (tq : Int) := by rw [IntKind.wrap_u32]; omega
    have e5b : IntKind.u64.wrap (tq : Int) = (tq : Int) := by rw [IntKind.wrap_u64]; omega
    have e5c : IntKind.u64.wrap (tr : Int) = (tr : Int) := by rw [IntKind.wrap_u64]; omega
    have RN : Hid (Ro (wr.setCell ⟨w.heap.size, i, none⟩ (.int .u32 (tq : Int))) w.heap.size (List.replicate i 0 ++ (tq :: q))) := hid (by have := hR.out.set i tq; rw [set_low] at this; exact this)
    have BN := hid (below_store (i := i) (v := .int .u32 (tq : Int)) hB.out (Nat.le_refl _)); have QN : Hid (Wok (tq :: q)) := hid (Wok.cons s3 hqk.out); have SN := hid SN0; clear s1 hx hxx hxa ht hR SN0 htq htr; go_wp2_with fail
    go_roundw
    case rel => exact ⟨i, tr, tq :: q, by rfl, by first | rfl | simp, by omega, s2, by simp; omega, QN, RN, SN, BN⟩
    case measure => simp [intOf]
set_option maxHeartbeats 8000000 in
theorem edivSmall (va : Value) (m d : Nat) (w : World) (ha : Wd w va (words m)) (hm : (words m).length ≤ 549755813888) (hd : 0 < d) (hd2 : d < 4294967296) :
 Calls Tryz.prog 233 #[va, .int .u32 d] w fun e w' => ∃ v, e = .returned (.tuple #[v, .int .u32 ((m % d : Nat) : Int)]) ∧ Wd w' v (words (m / d)) ∧ Fresh w.heap.size v ∧ Below w.heap.size w w' := by
 have okm := words_ok m; have vm := val_words m; obtain ⟨a, ca, rfl, hca, hce⟩ := ha.form; clear ha; generalize words m = l at okm vm hca hce hm ⊢; have HA := hid hce; have OKl := hid okm; have VM := hid vm; clear hce okm vm; obtain ⟨rr, hrr⟩ : ∃ rr, rr = m % d := ⟨_, rfl⟩; rw [← hrr]; have HRR := hid hrr; clear hrr; have ed : IntKind.u64.wrap (d : Int) = (d : Int) := by rw [IntKind.wrap_u64]; omega
 have ed0 : ¬ (d : Int) = 0 := by omega
 have ed1 : ((d : Int) == 0) = false := by simp; omega
 go_enter Tryz.func233, Tryz.ntmps233; go_wp2_with (at_make; refine make_words _ rfl _ _ rfl _ l.length rfl rfl rfl (by omega) ?_; intro w1 hro hb1 hlt1)
 have RO : Hid (Ro w1 w.heap.size (List.replicate l.length 0 ++ [])) := hid (by rw [List.append_nil]; exact hro.out)
 have B1 := hid hb1; clear hro hb1; go_loopw [7, 8, 9] (fun s7 s8 s9 wr => ∃ (j r : Nat) (q : List Nat), s7 = .int .u64 r ∧ s8 = .int .i64 ((j : Int) - 1) ∧ j ≤ l.length ∧ r < d ∧ q.length + j = l.length ∧ Hid (Wok q) ∧ Hid (Ro wr w.heap.size (List.replicate j 0 ++ q)) ∧ Hid (val (l.drop j) = d * val q + r) ∧ Hid (Below w.heap.size w wr)) (fun s7 s8 s9 _ => (intOf s8 + 1).toNat)
 case atStart => exact ⟨l.length, 0, [], rfl, by first | rfl | simp, Nat.le_refl _, hd, by simp, hid Wok.nil, RO, hid (by rw [List.drop_length]; simp [val]), B1⟩
 case round =>
  obtain ⟨j, r, q, rfl, rfl, hj, hr, hql, hqk, hR, hS, hB⟩ := hrel; haveI : Has wr w.heap.size := ⟨hR.out.lt⟩; rcases Nat.eq_zero_or_pos j with rfl | hjp
  · have hR2 := hR.out; rw [List.replicate_zero, List.nil_append] at hR2; have hS2 := hS.out; rw [List.drop_zero, VM.out] at hS2
    have hq1 : val q = m / d := by
     rw [hS2, Nat.mul_add_div hd, Nat.div_eq_of_lt hr, Nat.add_zero]
    have hr1 : rr = r := by
     rw [HRR.out, hS2, Nat.mul_add_mod, Nat.mod_eq_of_lt hr]
    have W2 : Hid (Wd wr (.slice (some ⟨w.heap.size, 0, none⟩) l.length l.length) q) := hid (by have := hR2.wd (cap := l.length) (by omega); rw [show q.length = l.length by omega] at this; exact this)
    have HV := hid hq1; have HR1 := hid hr1; have er : IntKind.u32.wrap (r : Int) = (r : Int) := by rw [IntKind.wrap_u32]; omega
    have hlen2 : q.length ≤ 1099511627776 := by omega
    clear hR2 hS2 hq1 hr1; go_wp2_with fail
    refine (etrim _ _ _ W2.out hqk.out hlen2).mono ?_
    rintro e w' ⟨v, rfl, hw, hbl, rfl⟩; rw [HV.out] at hw; have HW := hid hw; clear hw; go_wp2_with fail
    go_ret2
    exact ⟨_, by rw [HR1.out]; rfl, HW.out, (Fresh.own (Nat.le_refl _)).of hbl, hB.out⟩
  · obtain ⟨i, rfl⟩ : ∃ i, j = i + 1 := ⟨j - 1, by omega⟩
    obtain ⟨ga, oa, rfl, hga, hxa⟩ := HA.out (by omega)
    have hx : l[i]? = some l[i] := List.getElem?_eq_getElem (by omega)
    obtain ⟨x, hxx⟩ : ∃ x, x = l[i] := ⟨_, rfl⟩; rw [← hxx] at hx; have hxB := OKl.out.get hx; have cax := cell_below (hxa i x hx) hga hB.out; haveI : Has wr ga := ⟨Nat.lt_of_lt_of_le hga hB.out.size⟩; have co := hR.out.cell (get_low i q); have fo := hR.out.free i; have hi0 : (0 : Int) ≤ (i : Int) := by omega
    have hil : (i : Int) < (l.length : Int) := by omega
    have e0 : ((i + 1 : Nat) : Int) - 1 = (i : Int) := by omega
    have e1 : IntKind.u64.wrap (x : Int) = (x : Int) := by rw [IntKind.wrap_u64]; omega
    obtain ⟨s1, s2, s3⟩ := quo_step hd (by omega) hS.out hr hxB
    rw [← val_drop hx] at s1; have eo := or_words r x (by omega) hxB
    have esh : IntKind.u64.wrap ((r : Int) * 4294967296) = (r : Int) * 4294967296 := by rw [IntKind.wrap_u64]; omega
    obtain ⟨t, ht⟩ : ∃ t, t = r * 4294967296 + x := ⟨_, rfl⟩; rw [← ht] at s1 s2 s3 eo; have htB : t < 18446744073709551616 := by omega
    have q1 : (t : Int).tdiv (d : Int) = ((t / d : Nat) : Int) := by rw [Int.tdiv_eq_ediv_of_nonneg (by omega)]; simp
    have q2 : (t : Int) / (d : Int) = ((t / d : Nat) : Int) := by simp
    have q3 : (t : Int).tmod (d : Int) = ((t % d : Nat) : Int) := by rw [Int.tmod_eq_emod_of_nonneg (by omega)]; simp
    have q4 : (t : Int) % (d : Int) = ((t % d : Nat) : Int) := by simp
    have SN0 : val (l.drop i) = d * val (t / d :: q) + t % d := by rw [s1, val]
    obtain ⟨tq, htq⟩ : ∃ tq, tq = t / d := ⟨_, rfl⟩; obtain ⟨tr, htr⟩ : ∃ tr, tr = t % d := ⟨_, rfl⟩; rw [← htq] at q1 q2 s3 SN0; rw [← htr] at q3 q4 s2 SN0; have e5 : IntKind.u32.wrap (tq : Int) = (tq : Int) := by rw [IntKind.wrap_u32]; omega
    have e5b : IntKind.u64.wrap (tq : Int) = (tq : Int) := by rw [IntKind.wrap_u64]; omega
    have e5c : IntKind.u64.wrap (tr : Int) = (tr : Int) := by rw [IntKind.wrap_u64]; omega
    have RN : Hid (Ro (wr.setCell ⟨w.heap.size, i, none⟩ (.int .u32 (tq : Int))) w.heap.size (List.replicate i 0 ++ (tq :: q))) := hid (by have := hR.out.set i tq; rw [set_low] at this; exact this)
    have BN := hid (below_store (i := i) (v := .int .u32 (tq : Int)) hB.out (Nat.le_refl _)); have QN : Hid (Wok (tq :: q)) := hid (Wok.cons s3 hqk.out); have SN := hid SN0; clear s1 hx hxx hxa ht hR SN0 htq htr; go_wp2_with fail
    go_roundw
    case rel => exact ⟨i, tr, tq :: q, by rfl, by first | rfl | simp, by omega, s2, by simp; omega, QN, RN, SN, BN⟩
    case measure => simp [intOf]
end Go.Proofs.YthjeejnggpjnjaaGreatDoor
