/- A part: CR, CS, CT, AAS. -/
import Derived.Test.YthjeejnggpjnjaaGreatDoorZC19
set_option linter.unusedSimpArgs false
set_option linter.unusedVariables false
set_option maxRecDepth 100000
set_option maxHeartbeats 16000000
set_option synthInstance.maxHeartbeats 2000000
set_option synthInstance.maxSize 100000
namespace Go.Proofs.YthjeejnggpjnjaaGreatDoor
open Go.RowKit
@[go_sem] theorem run_index195_0 (a a' : Option Addr) (n c n' c' : Nat) (w : World) : (Instr.index 195 (.agg #[.slice a n c, .slice a' n' c']) (.int .i64 0)).run Tryz.prog w = .ok (.slice a n c) w := by kernel_rfl
@[go_sem] theorem run_index195_1 (a a' : Option Addr) (n c n' c' : Nat) (w : World) : (Instr.index 195 (.agg #[.slice a n c, .slice a' n' c']) (.int .i64 1)).run Tryz.prog w = .ok (.slice a' n' c') w := by kernel_rfl
def lcmD (d : Nat) (r : _root_.Rat) : Nat := d * (r.den / Nat.gcd d r.den)
def lcmL (d : Nat) (l : List _root_.Rat) : Nat := l.foldl lcmD d
theorem lcmL_take {d : Nat} {l : List _root_.Rat} {j : Nat} {x : _root_.Rat} (h : l[j]? = some x) : lcmL d (l.take (j + 1)) = lcmD (lcmL d (l.take j)) x := by
 unfold lcmL; rw [List.take_add_one, h, List.foldl_append]; rfl
theorem lcmD_int (d : Nat) (r : _root_.Rat) : ((d : Nat) : Int) * Int.tdiv ((r.den : Nat) : Int) ((Nat.gcd d r.den : Nat) : Int) = ((lcmD d r : Nat) : Int) := by
 unfold lcmD; rw [← Int.ofNat_tdiv, Int.natCast_mul]
theorem lcmD_len {d : Nat} {r : _root_.Rat} {k L : Nat} (hd : (words d).length ≤ k) (hr : (words r.den).length ≤ L) : (words (lcmD d r)).length ≤ k + L := by
 have h1 : (words (r.den / Nat.gcd d r.den)).length ≤ L := Nat.le_trans (len_mono (Nat.div_le_self _ _)) hr; rw [← words_lt_iff] at hd h1 ⊢; unfold lcmD; rw [Nat.pow_add]; exact Nat.mul_lt_mul'' hd h1
theorem lcmL_len {d k L : Nat} {l : List _root_.Rat} (hd : (words d).length ≤ k) (h : SzR L l) (j : Nat) : (words (lcmL d (l.take j))).length ≤ k + L * j := by
 induction j with
 | zero => exact hd
 | succ j ih =>
   cases hx : l[j]? with
   | none =>
     rw [List.take_add_one, hx, Option.toList_none, List.append_nil]; rw [Nat.mul_succ]; omega
   | some x =>
     rw [lcmL_take hx, Nat.mul_succ]; exact Nat.le_trans (lcmD_len ih (h.at hx).2) (by omega)
theorem lcmD_pos {d : Nat} {r : _root_.Rat} (hd : d ≠ 0) : lcmD d r ≠ 0 := by
 unfold lcmD; have h1 := r.den_pos; have h2 : 0 < Nat.gcd d r.den := Nat.gcd_pos_of_pos_right _ h1; have h3 : 0 < r.den / Nat.gcd d r.den := Nat.div_pos (Nat.le_of_dvd h1 (Nat.gcd_dvd_right _ _)) h2; exact Nat.ne_of_gt (Nat.mul_pos (Nat.pos_of_ne_zero hd) h3)
def wholeD (l m : List _root_.Rat) : Nat := lcmL (lcmL 1 l) m
def wholeX (l m : List _root_.Rat) : List Int := cutI (l.map (wholeI (wholeD l m)))
def wholeY (l m : List _root_.Rat) : List Int := cutI (m.map (wholeI (wholeD l m)))
theorem gaWhole2 {w : World} {v v' : Value} {l m : List _root_.Rat} {L : Nat} [hv : VrB w] (h : Rw 80 (ER 88) w v l) (h' : Rw 80 (ER 88) w v' m) (hn : l.length ≤ 64) (hn' : m.length ≤ 64) (hs : SzR L l) (hs' : SzR L m) (hL : L ≤ 100000000) :
 Calls Tryz.prog 112 #[v, v'] w fun e w' => ∃ u u', e = .returned (.tuple #[u, u']) ∧ Rw 160 EI w' u (wholeX l m) ∧ Rw 160 EI w' u' (wholeY l m) ∧ Kp0 w w' := by
 obtain ⟨a, cap, rfl, hcap⟩ := h.form; obtain ⟨a', cap', rfl, hcap'⟩ := h'.form; obtain ⟨n0, hn0⟩ : ∃ n, n = l.length := ⟨_, rfl⟩; obtain ⟨n1, hn1⟩ : ∃ n, n = m.length := ⟨_, rfl⟩; have HL0 := hid hn0; have HL1 := hid hn1; rw [← hn0] at hn hcap; rw [← hn1] at hn' hcap'; have es : (.slice a l.length cap : Value) = .slice a n0 cap := by rw [hn0]
 have es' : (.slice a' m.length cap' : Value) = .slice a' n1 cap' := by rw [hn1]
 rw [es] at h ⊢; rw [es'] at h' ⊢; have HH0 := hid h; have HH1 := hid h'; have HN0 := hid hn; have HN1 := hid hn'; have SE0 := hid (fun (j : Nat) (x : _root_.Rat) (hx : l[j]? = some x) => hs.at hx)
 have SE1 := hid (fun (j : Nat) (x : _root_.Rat) (hx : m[j]? = some x) => hs'.at hx)
 have HS0 := hid hs; have HS1 := hid hs'; have HLB := hid hL; have w1 : (words 1).length ≤ 1 := small_len (by decide)
 have BL0 := hid (fun j (hj : j ≤ n0) => show (words (lcmL 1 (l.take j))).length ≤ 10000000000 from by
  have q := lcmL_len w1 hs j; have q2 : L * j ≤ 100000000 * 64 := Nat.mul_le_mul hL (by omega)
  omega)
 have BL1 := hid (fun j (hj : j ≤ n1) => show (words (lcmL (lcmL 1 l) (m.take j))).length ≤ 20000000000 from by
  have p := BL0.out n0 (Nat.le_refl _); rw [HL0.out, List.take_length] at p; have q := lcmL_len p hs' j; have q2 : L * j ≤ 100000000 * 64 := Nat.mul_le_mul hL (by omega)
  omega)
 clear h h' hn0 hn1 es es' hs hs' hL w1; go_enter Tryz.func112, Tryz.ntmps112; go_wp2_with ((go_at_call 116; (with_reducible refine Calls.mono (bNewC (by decide) (by decide)) ?_); rintro e wc ⟨kk, rfl, _, _, _⟩))
 generalize hgD : wc.heap.size = gD at *; have HGD := hid hgD; haveI : LtN kk gD := hgD ▸ (inferInstance : LtN kk wc.heap.size); haveI : Up w.heap.size gD := ⟨by rw [← hgD]; exact (Gr.out (v := w) (W := wc)).size⟩
 clear hgD; go_loopw [17] (fun s17 wx => ∃ (k : Int) (d : Nat), s17 = .int .i64 k ∧ ((k = 0 ∧ d = 1) ∨ (k = 1 ∧ d = lcmL 1 l) ∨ (k = 2 ∧ d = wholeD l m)) ∧ InC wx kk ((d : Nat) : Int) ∧ BkC wx gD [.pointer (some ⟨kk, 0, none⟩)] 160 ∧ Kp0 w wx) (fun s17 _ => 2 - (intOf s17).toNat)
 case atStart =>
  refine ⟨0, 1, rfl, .inl ⟨rfl, rfl⟩, ?_, ?_, ⟨Gr.out⟩⟩
  · show InC _ _ 1
    infer_instance
  · rw [← HGD.out]; infer_instance
 case round =>
  obtain ⟨k, d, rfl, ⟨rfl, rfl⟩ | ⟨rfl, rfl⟩ | ⟨rfl, rfl⟩, ik, ib, ig⟩ := hrel
  · go_wp2_with fail
    go_loopw [22] (fun s22 wx => ∃ j : Nat, s22 = .int .i64 j ∧ j ≤ n0 ∧ InC wx kk ((lcmL 1 (l.take j) : Nat) : Int) ∧ BkC wx gD [.pointer (some ⟨kk, 0, none⟩)] 160 ∧ Kp0 w wx) (fun s22 _ => n0 - (intOf s22).toNat)
    case atStart =>
     refine ⟨0, rfl, by omega, ?_, ib, ig⟩
     show InC _ _ ((1 : Nat) : Int)
     infer_instance
    case round =>
     obtain ⟨j, rfl, hj, is, ib2, ig2⟩ := hrel; by_cases hjn : j = n0
     · subst hjn; have HT := hid (show l.take j = l by rw [HL0.out, List.take_length])
       rw [HT.out] at is; clear hj; go_wp2_with fail
       go_round
       case rel =>
        refine ⟨1, lcmL 1 l, by go_num, .inr (.inl ⟨rfl, rfl⟩), is, ib2, ig2⟩
       case measure => simp [intOf]
     · have hlt : j < n0 := by omega
       have hI : (j : Int) < (n0 : Int) := by omega
       have h0 : (0 : Int) ≤ (j : Int) := by omega
       have hx : l[j]? = some l[j] := List.getElem?_eq_getElem (by rw [← HL0.out]; omega)
       generalize l[j] = x at hx; obtain ⟨g, off, u, rfl, hg, cj, p2, rfl, hIx⟩ := HH0.out.at hx; haveI : Has w g := ⟨hg⟩; haveI : RaC 88 w p2 x := ⟨hIx⟩; have HX := hid (lcmL_take (d := 1) hx); have k0 := SE0.out j x hx; have kb := BL0.out j hj; have kd : Hid ((words x.den).length ≤ 1099511627776) := hid (by have := HLB.out; omega)
       have kd2 : Hid ((words ((x.den : Nat) : Int).natAbs).length ≤ 137438953472) := hid (by rw [Int.natAbs_natCast]; have := HLB.out; omega)
       generalize lcmL 1 (l.take j) = dj at *; have ka : Hid ((words ((dj : Nat) : Int).natAbs).length ≤ 137438953472) := hid (by rw [Int.natAbs_natCast]; omega)
       have kg0 : Hid (((Nat.gcd ((dj : Nat) : Int).natAbs ((x.den : Nat) : Int).natAbs : Nat) : Int) ≠ 0) := hid (by
        rw [Int.natAbs_natCast, Int.natAbs_natCast]; have := Nat.gcd_pos_of_pos_right dj x.den_pos
        omega)
       have kg : Hid ((words ((Nat.gcd ((dj : Nat) : Int).natAbs ((x.den : Nat) : Int).natAbs : Nat) : Int).natAbs).length ≤ 137438953472) := hid (by
        rw [Int.natAbs_natCast, Int.natAbs_natCast, Int.natAbs_natCast]; have q := Nat.le_trans (len_mono (Nat.le_of_dvd x.den_pos (Nat.gcd_dvd_right dj x.den))) k0.2; have := HLB.out
        omega)
       have km : Hid ((words ((dj : Nat) : Int).natAbs).length + (words (Int.tdiv ((x.den : Nat) : Int) ((Nat.gcd ((dj : Nat) : Int).natAbs ((x.den : Nat) : Int).natAbs : Nat) : Int)).natAbs).length ≤ 137438953472) := hid (by
        have q : (words (Int.tdiv ((x.den : Nat) : Int) ((Nat.gcd ((dj : Nat) : Int).natAbs ((x.den : Nat) : Int).natAbs : Nat) : Int)).natAbs).length ≤ 100000000 := tdiv_len (by rw [Int.natAbs_natCast]; have := HLB.out; omega)
        rw [Int.natAbs_natCast] at *
        omega)
       have HI := hid hlt; have BD := hid (Bk.cell ib2.out (i := 0) rfl)
       have HV : Hid (((dj : Nat) : Int) * Int.tdiv ((x.den : Nat) : Int) ((Nat.gcd ((dj : Nat) : Int).natAbs ((x.den : Nat) : Int).natAbs : Nat) : Int) = ((lcmD dj x : Nat) : Int)) := hid (by
        rw [Int.natAbs_natCast, Int.natAbs_natCast]; exact lcmD_int dj x)
       clear hx hIx hj hjn hlt k0 kb; go_upto_region 8 with fail
       go_region_held3 (fun W => W.cell? ⟨gD, 0, none⟩ = some (.pointer (some ⟨kk, 0, none⟩))) (first | exact Bk.cell BkC.out rfl | (simp [go_sem]; done) | (simp [go_sem, BD.out]; done)) (first | (go_at_call 137; (with_reducible refine Calls.mono (bDenC kd.out) ?_); rintro e wc ⟨kd1, rfl, _, _, _⟩) | (go_at_call 161; (with_reducible refine Calls.mono (biGcdC ka.out kd2.out) ?_); rintro e wc ⟨rfl, _, _⟩))
       all_goals
        go_upto_region 9 with fail
        go_region_held3 (fun W => W.cell? ⟨gD, 0, none⟩ = some (.pointer (some ⟨kk, 0, none⟩))) (first | exact Bk.cell BkC.out rfl | (simp [go_sem]; done) | (simp [go_sem, BD.out]; done)) (first | (go_at_call 137; (with_reducible refine Calls.mono (bDenC kd.out) ?_); rintro e wc ⟨kd3, rfl, _, _, _⟩) | (go_at_call 162; (with_reducible refine Calls.mono (biQuoC kd2.out kg.out kg0.out) ?_); rintro e wc ⟨rfl, _, _⟩) | (go_at_call 115; (with_reducible refine Calls.mono (biMulC km.out) ?_); rintro e wc ⟨rfl, _, _⟩))
       all_goals (go_wp2_with fail)
       all_goals go_round
       all_goals first
        | (refine ⟨j + 1, by go_num, HI.out, ?_, inferInstance, ⟨Gr.out⟩⟩
           rw [HX.out, ← HV.out]; infer_instance)
        | (simp [intOf]; done)
        | (simp [intOf]; omega)
  · go_wp2_with fail
    go_loopw [22] (fun s22 wx => ∃ j : Nat, s22 = .int .i64 j ∧ j ≤ n1 ∧ InC wx kk ((lcmL (lcmL 1 l) (m.take j) : Nat) : Int) ∧ BkC wx gD [.pointer (some ⟨kk, 0, none⟩)] 160 ∧ Kp0 w wx) (fun s22 _ => n1 - (intOf s22).toNat)
    case atStart =>
     refine ⟨0, rfl, by omega, ?_, ib, ig⟩
     show InC _ _ (((lcmL 1 l) : Nat) : Int)
     infer_instance
    case round =>
     obtain ⟨j, rfl, hj, is, ib2, ig2⟩ := hrel; by_cases hjn : j = n1
     · subst hjn; have HT := hid (show m.take j = m by rw [HL1.out, List.take_length])
       rw [HT.out] at is; clear hj; go_wp2_with fail
       go_round
       case rel =>
        refine ⟨2, lcmL (lcmL 1 l) m, by go_num, .inr (.inr ⟨rfl, rfl⟩), is, ib2, ig2⟩
       case measure => simp [intOf]
     · have hlt : j < n1 := by omega
       have hI : (j : Int) < (n1 : Int) := by omega
       have h0 : (0 : Int) ≤ (j : Int) := by omega
       have hx : m[j]? = some m[j] := List.getElem?_eq_getElem (by rw [← HL1.out]; omega)
       generalize m[j] = x at hx; obtain ⟨g, off, u, rfl, hg, cj, p2, rfl, hIx⟩ := HH1.out.at hx; haveI : Has w g := ⟨hg⟩; haveI : RaC 88 w p2 x := ⟨hIx⟩; have HX := hid (lcmL_take (d := (lcmL 1 l)) hx); have k0 := SE1.out j x hx; have kb := BL1.out j hj; have kd : Hid ((words x.den).length ≤ 1099511627776) := hid (by have := HLB.out; omega)
       have kd2 : Hid ((words ((x.den : Nat) : Int).natAbs).length ≤ 137438953472) := hid (by rw [Int.natAbs_natCast]; have := HLB.out; omega)
       generalize lcmL (lcmL 1 l) (m.take j) = dj at *; have ka : Hid ((words ((dj : Nat) : Int).natAbs).length ≤ 137438953472) := hid (by rw [Int.natAbs_natCast]; omega)
       have kg0 : Hid (((Nat.gcd ((dj : Nat) : Int).natAbs ((x.den : Nat) : Int).natAbs : Nat) : Int) ≠ 0) := hid (by
        rw [Int.natAbs_natCast, Int.natAbs_natCast]; have := Nat.gcd_pos_of_pos_right dj x.den_pos
        omega)
       have kg : Hid ((words ((Nat.gcd ((dj : Nat) : Int).natAbs ((x.den : Nat) : Int).natAbs : Nat) : Int).natAbs).length ≤ 137438953472) := hid (by
        rw [Int.natAbs_natCast, Int.natAbs_natCast, Int.natAbs_natCast]; have q := Nat.le_trans (len_mono (Nat.le_of_dvd x.den_pos (Nat.gcd_dvd_right dj x.den))) k0.2; have := HLB.out
        omega)
       have km : Hid ((words ((dj : Nat) : Int).natAbs).length + (words (Int.tdiv ((x.den : Nat) : Int) ((Nat.gcd ((dj : Nat) : Int).natAbs ((x.den : Nat) : Int).natAbs : Nat) : Int)).natAbs).length ≤ 137438953472) := hid (by
        have q : (words (Int.tdiv ((x.den : Nat) : Int) ((Nat.gcd ((dj : Nat) : Int).natAbs ((x.den : Nat) : Int).natAbs : Nat) : Int)).natAbs).length ≤ 100000000 := tdiv_len (by rw [Int.natAbs_natCast]; have := HLB.out; omega)
        rw [Int.natAbs_natCast] at *
        omega)
       have HI := hid hlt; have BD := hid (Bk.cell ib2.out (i := 0) rfl)
       have HV : Hid (((dj : Nat) : Int) * Int.tdiv ((x.den : Nat) : Int) ((Nat.gcd ((dj : Nat) : Int).natAbs ((x.den : Nat) : Int).natAbs : Nat) : Int) = ((lcmD dj x : Nat) : Int)) := hid (by
        rw [Int.natAbs_natCast, Int.natAbs_natCast]; exact lcmD_int dj x)
       clear hx hIx hj hjn hlt k0 kb; go_upto_region 8 with fail
       go_region_held3 (fun W => W.cell? ⟨gD, 0, none⟩ = some (.pointer (some ⟨kk, 0, none⟩))) (first | exact Bk.cell BkC.out rfl | (simp [go_sem]; done) | (simp [go_sem, BD.out]; done)) (first | (go_at_call 137; (with_reducible refine Calls.mono (bDenC kd.out) ?_); rintro e wc ⟨kd1, rfl, _, _, _⟩) | (go_at_call 161; (with_reducible refine Calls.mono (biGcdC ka.out kd2.out) ?_); rintro e wc ⟨rfl, _, _⟩))
       all_goals
        go_upto_region 9 with fail
        go_region_held3 (fun W => W.cell? ⟨gD, 0, none⟩ = some (.pointer (some ⟨kk, 0, none⟩))) (first | exact Bk.cell BkC.out rfl | (simp [go_sem]; done) | (simp [go_sem, BD.out]; done)) (first | (go_at_call 137; (with_reducible refine Calls.mono (bDenC kd.out) ?_); rintro e wc ⟨kd3, rfl, _, _, _⟩) | (go_at_call 162; (with_reducible refine Calls.mono (biQuoC kd2.out kg.out kg0.out) ?_); rintro e wc ⟨rfl, _, _⟩) | (go_at_call 115; (with_reducible refine Calls.mono (biMulC km.out) ?_); rintro e wc ⟨rfl, _, _⟩))
       all_goals (go_wp2_with fail)
       all_goals go_round
       all_goals first
        | (refine ⟨j + 1, by go_num, HI.out, ?_, inferInstance, ⟨Gr.out⟩⟩
           rw [HX.out, ← HV.out]; infer_instance)
        | (simp [intOf]; done)
        | (simp [intOf]; omega)
  · skip
    have HD := hid (show (words ((wholeD l m : Nat) : Int).natAbs).length ≤ 100000000000 by
     rw [Int.natAbs_natCast]; have p := BL1.out n1 (Nat.le_refl _); rw [HL1.out, List.take_length] at p; unfold wholeD
     omega)
    have HLL := hid (show l.length ≤ 4096 by rw [← HL0.out]; have := HN0.out; omega)
    have HLM := hid (show m.length ≤ 4096 by rw [← HL1.out]; have := HN1.out; omega)
    have HLB9 := hid (show L ≤ 1000000000 by have := HLB.out; omega)
    go_wp2_with (first | (go_at_call 163; (with_reducible refine Calls.mono (gaScaled (HH0.out.below (eok_ER (by decide) (by decide)) Gr.out) HLL.out HS0.out HLB9.out HD.out) ?_); rintro e wa ⟨ua, rfl, hua, _⟩; have HUA := hid hua; clear hua) | (go_at_call 163; (with_reducible refine Calls.mono (gaScaled (HH1.out.below (eok_ER (by decide) (by decide)) Gr.out) HLM.out HS1.out HLB9.out HD.out) ?_); rintro e wb ⟨ub, rfl, hub, _⟩; have HUB := hid hub; clear hub))
    go_ret2
    exact ⟨_, _, rfl, HUA.out.below eok_EI Gr.out, HUB.out, ⟨Gr.out⟩⟩
def Rn (w : World) (g n : Nat) (f : Nat → Option (_root_.Rat × _root_.Rat)) : Prop :=
 ∃ C : Array Value, w.heap[g]? = some (.cells C 82 (0, 0)) ∧ C.size = n * 2 ∧ ∀ i, i < n → ∃ u v, C[i * 2]? = some u ∧ C[i * 2 + 1]? = some v ∧ ∀ x, f i = some x → ∃ a b, u = .pointer (some ⟨a, 0, none⟩) ∧ v = .pointer (some ⟨b, 0, none⟩) ∧ Ra 88 w a x.1 ∧ Ra 88 w b x.2
theorem Rn.lt {w : World} {g n : Nat} {f : Nat → Option (_root_.Rat × _root_.Rat)} (h : Rn w g n f) : g < w.heap.size := by
 obtain ⟨C, h1, -⟩ := h; exact lt_of_block h1
theorem Rn.below {w w' : World} {g n : Nat} {f : Nat → Option (_root_.Rat × _root_.Rat)} (h : Rn w g n f) (b : Below w.heap.size w w') : Rn w' g n f := by
 obtain ⟨C, h1, h2, h3⟩ := h; refine ⟨C, (b.block g (lt_of_block h1)).trans h1, h2, fun i hi => ?_⟩
 obtain ⟨u, v, q1, q2, q3⟩ := h3 i hi; refine ⟨u, v, q1, q2, fun x hx => ?_⟩
 obtain ⟨a, b', r1, r2, r3, r4⟩ := q3 x hx; exact ⟨a, b', r1, r2, r3.below b, r4.below b⟩
theorem Rn.at {w : World} {g n i : Nat} {f : Nat → Option (_root_.Rat × _root_.Rat)} (h : Rn w g n f) (hi : i < n) {x : _root_.Rat × _root_.Rat} (hx : f i = some x) : ∃ a b, w.cell? ⟨g, i * 2, none⟩ = some (.pointer (some ⟨a, 0, none⟩)) ∧ w.cell? ⟨g, i * 2 + 1, none⟩ = some (.pointer (some ⟨b, 0, none⟩)) ∧ Ra 88 w a x.1 ∧ Ra 88 w b x.2 := by
 obtain ⟨C, h1, h2, h3⟩ := h; obtain ⟨u, v, q1, q2, q3⟩ := h3 i hi; obtain ⟨a, b, rfl, rfl, r3, r4⟩ := q3 x hx; exact ⟨a, b, by rw [cell_of_block h1]; exact q1, by rw [cell_of_block h1]; exact q2, r3, r4⟩
theorem Rn.slot {w : World} {g n i : Nat} {f : Nat → Option (_root_.Rat × _root_.Rat)} (h : Rn w g n f) (hi : i < n) : (∃ u v, w.cell? ⟨g, i * 2, none⟩ = some u ∧ w.cell? ⟨g, i * 2 + 1, none⟩ = some v) ∧ ∀ k, w.frozen? ⟨g, k, none⟩ = false := by
 obtain ⟨C, h1, h2, h3⟩ := h; obtain ⟨u, v, q1, q2, -⟩ := h3 i hi; exact ⟨⟨u, v, by rw [cell_of_block h1]; exact q1, by rw [cell_of_block h1]; exact q2⟩, fun k => free_of_block h1 k⟩
def updN (f : Nat → Option (_root_.Rat × _root_.Rat)) (i : Nat) (x : _root_.Rat × _root_.Rat) : Nat → Option (_root_.Rat × _root_.Rat) := fun j => if j = i then some x else f j
theorem Rn.put {w : World} {g n i a b : Nat} {f : Nat → Option (_root_.Rat × _root_.Rat)} {x : _root_.Rat × _root_.Rat} (h : Rn w g n f) (hi : i < n) (ha : Ra 88 w a x.1) (hb : Ra 88 w b x.2) : Rn ((w.setCell ⟨g, i * 2, none⟩ (.pointer (some ⟨a, 0, none⟩))).setCell ⟨g, i * 2 + 1, none⟩ (.pointer (some ⟨b, 0, none⟩))) g n (updN f i x) := by
 obtain ⟨C, h1, h2, h3⟩ := h; have kp : Keeps w.heap.size [g] w ((w.setCell ⟨g, i * 2, none⟩ (.pointer (some ⟨a, 0, none⟩))).setCell ⟨g, i * 2 + 1, none⟩ (.pointer (some ⟨b, 0, none⟩))) := ((Keeps.refl _ _ _).set (Or.inl (List.mem_singleton.2 rfl)) _ _).set (Or.inl (List.mem_singleton.2 rfl)) _ _; refine ⟨(C.setIfInBounds (i * 2) _).setIfInBounds (i * 2 + 1) _, set_of_block (set_of_block h1 _ _) _ _, by rw [Array.size_setIfInBounds, Array.size_setIfInBounds]; exact h2, fun j hj => ?_⟩
 obtain ⟨u, v, q1, q2, q3⟩ := h3 j hj; by_cases hij : j = i
 · subst hij; refine ⟨.pointer (some ⟨a, 0, none⟩), .pointer (some ⟨b, 0, none⟩), ?_, ?_, fun y hy => ?_⟩
   · rw [Array.getElem?_setIfInBounds, if_neg (by omega), Array.getElem?_setIfInBounds, if_pos rfl, if_pos (by omega)]
   · rw [Array.getElem?_setIfInBounds, if_pos rfl, if_pos (by rw [Array.size_setIfInBounds]; omega)]
   · unfold updN at hy; rw [if_pos rfl] at hy; obtain rfl := Option.some.inj hy; exact ⟨a, b, rfl, rfl, ha.keepO h1 kp (by decide) (by decide), hb.keepO h1 kp (by decide) (by decide)⟩
 · refine ⟨u, v, ?_, ?_, fun y hy => ?_⟩
   · rw [Array.getElem?_setIfInBounds, if_neg (by omega), Array.getElem?_setIfInBounds, if_neg (by omega)]; exact q1
   · rw [Array.getElem?_setIfInBounds, if_neg (by omega), Array.getElem?_setIfInBounds, if_neg (by omega)]; exact q2
   · unfold updN at hy; rw [if_neg hij] at hy; obtain ⟨c, d, r1, r2, r3, r4⟩ := q3 y hy; exact ⟨c, d, r1, r2, r3.keepO h1 kp (by decide) (by decide), r4.keepO h1 kp (by decide) (by decide)⟩
theorem Rn.weak {w : World} {g n : Nat} {f f' : Nat → Option (_root_.Rat × _root_.Rat)} (h : Rn w g n f) (k : ∀ i x, i < n → f' i = some x → f i = some x) : Rn w g n f' := by
 obtain ⟨C, h1, h2, h3⟩ := h; refine ⟨C, h1, h2, fun i hi => ?_⟩
 obtain ⟨u, v, q1, q2, q3⟩ := h3 i hi; exact ⟨u, v, q1, q2, fun x hx => q3 x (k i x hi hx)⟩
theorem info82z : (Tryz.prog.info? 82).map (fun i => (i.zero, i.size, i.bytes)) = some (some (.agg #[.pointer none, .pointer none]), 2, 16) := by kernel_rfl
theorem und155z : Tryz.prog.underlying 155 = some (.slice 82) := by kernel_rfl
theorem make_n {ops : Array Oper} {rest : List Oper} {o : Oper} {a : Act} {Q : Exit → Act → World → Prop} (w : World) (hg : o.guard = none) (l c : Operand) (hop : o.op = Op.makeSlice 155 l c)
 (L : Int) (n : Nat) (hl : a.eval l = .int .i64 L) (hc : a.eval c = .int .i64 L) (hL : L = (n : Int)) (hn : n ≤ 1048576)
 (hK : ∀ w1, Rn w1 w.heap.size n (fun _ => none) → Kp0 w w1 → wpList Tryz.prog ops Q rest (a.put o.dst (.slice (some ⟨w.heap.size, 0, none⟩) n n)) w1) :
 wpList Tryz.prog ops Q (o :: rest) a w := by
 obtain ⟨ti, hti, htz, hts, htb⟩ := info_parts info82z; refine wpList_make_full w hg l c 155 hop w.heap.size 82 ti _ 2 und155z hti htz hts .i64 .i64 L L n hl hc hL hL (by rw [htb]; omega) (by unfold maxLen; omega) (Nat.le_refl _) (fun w1 hown hgrow => ?_)
 refine hK w1 ?_ ⟨Keeps.below ⟨hgrow.os, hgrow.tape, hgrow.output, hgrow.size, fun k hk _ => hgrow.block k hk (by simp)⟩⟩
 rcases hown.2 with ⟨h0, -⟩ | ⟨k, cap, cur, he, hgk, hb, h1, h2, h3, h4⟩
 · cases h0
 · simp only [Value.slice.injEq, Option.some.injEq, Addr.mk.injEq] at he; obtain ⟨⟨rfl, -, -⟩, -, rfl⟩ := he; have hs : cur.size = n * 2 := h3; refine ⟨cur, hb, hs, fun i hi => ⟨cur[i * 2], cur[i * 2 + 1], Array.getElem?_eq_getElem (by omega), Array.getElem?_eq_getElem (by omega), fun x hx => by cases hx⟩⟩
def mulN (x y : _root_.Rat × _root_.Rat) : _root_.Rat × _root_.Rat := (x.1 * y.1 - x.2 * y.2, x.1 * y.2 + x.2 * y.1)
def addN (x y : _root_.Rat × _root_.Rat) : _root_.Rat × _root_.Rat := (x.1 + y.1, x.2 + y.2)
def firstN (A : List (_root_.Rat × _root_.Rat)) (F : _root_.Rat × _root_.Rat) (k : Nat) : _root_.Rat × _root_.Rat := if k < A.length then addN (0, 0) (mulN (A.getD k (0, 0)) F) else (0, 0)
def roundN (A : List (_root_.Rat × _root_.Rat)) (F S : _root_.Rat × _root_.Rat) (k : Nat) : _root_.Rat × _root_.Rat := if 0 < k then addN (firstN A F k) (mulN (A.getD (k - 1) (0, 0)) S) else firstN A F k
def nextN (A : List (_root_.Rat × _root_.Rat)) (F S c : _root_.Rat × _root_.Rat) : List (_root_.Rat × _root_.Rat) := addN (roundN A F S 0) c :: (List.range A.length).map (fun k => roundN A F S (k + 1))
def alongN (F S : _root_.Rat × _root_.Rat) (l : List (Nat × Nat)) : List (_root_.Rat × _root_.Rat) := l.foldr (fun c A => nextN A F S (frat c.1, frat c.2)) []
theorem nextN_len (A : List (_root_.Rat × _root_.Rat)) (F S c : _root_.Rat × _root_.Rat) : (nextN A F S c).length = A.length + 1 := by unfold nextN; rw [List.length_cons, List.length_map, List.length_range]
theorem nextN_at (A : List (_root_.Rat × _root_.Rat)) (F S c : _root_.Rat × _root_.Rat) {i : Nat} (hi : i < A.length + 1) : (nextN A F S c)[i]? = some (if i = 0 then addN (roundN A F S 0) c else roundN A F S i) := by
 rcases i with _ | i
 · rfl
 · unfold nextN; rw [List.getElem?_cons_succ, List.getElem?_map, List.getElem?_range (by omega)]
   rfl
theorem alongN_len (F S : _root_.Rat × _root_.Rat) (l : List (Nat × Nat)) : (alongN F S l).length = l.length := by
 induction l with
 | nil => rfl
 | cons c l ih =>
   show (nextN (alongN F S l) F S _).length = _
   rw [nextN_len, ih, List.length_cons]
theorem alongN_drop {F S : _root_.Rat × _root_.Rat} {l : List (Nat × Nat)} {j : Nat} {c : Nat × Nat} (h : l[j]? = some c) : alongN F S (l.drop j) = nextN (alongN F S (l.drop (j + 1))) F S (frat c.1, frat c.2) := by
 obtain ⟨hj, rfl⟩ := List.getElem?_eq_some_iff.1 h; rw [List.drop_eq_getElem_cons hj]; rfl
def DyN (E M : Nat) (x : _root_.Rat × _root_.Rat) : Prop := Dy E M x.1 ∧ Dy E M x.2
theorem DyN.mul {E M E' M' : Nat} {x y : _root_.Rat × _root_.Rat} (h : DyN E M x) (k : DyN E' M' y) : DyN (E + E') (M + M' + 1) (mulN x y) := ⟨(h.1.mul k.1).sub (h.2.mul k.2), (h.1.mul k.2).add (h.2.mul k.1)⟩
theorem DyN.add {E M : Nat} {x y : _root_.Rat × _root_.Rat} (h : DyN E M x) (k : DyN E M y) : DyN E (M + 1) (addN x y) := ⟨h.1.add k.1, h.2.add k.2⟩
theorem DyN.mono {E M M' : Nat} {x : _root_.Rat × _root_.Rat} (h : DyN E M x) (hM : M ≤ M') : DyN E M' x := ⟨h.1.mono hM, h.2.mono hM⟩
theorem DyN.up {E M : Nat} {x : _root_.Rat × _root_.Rat} (h : DyN E M x) (k : Nat) : DyN (E + k) (M + k) x := ⟨h.1.up k, h.2.up k⟩
theorem DyN.zero (E M : Nat) (h : E ≤ M) : DyN E M (0, 0) := by
 have := (Dy.zero.up E).mono (M' := M) (by omega)
 rw [Nat.zero_add] at this; exact ⟨this, this⟩
theorem roundN_dy {m : Nat} {A : List (_root_.Rat × _root_.Rat)} {F S : _root_.Rat × _root_.Rat} (hA : ∀ x ∈ A, DyN (92 * m) (150 * m) x) (hF : DyN 92 140 F) (hS : DyN 92 140 S) (k : Nat) : DyN (92 * m + 92) (150 * m + 145) (roundN A F S k) := by
 have hg : ∀ i, DyN (92 * m) (150 * m) (A.getD i (0, 0)) := by
  intro i; rw [List.getD_eq_getElem?_getD]; cases h : A[i]? with
  | none => exact DyN.zero _ _ (by omega)
  | some x => exact hA x (List.mem_of_getElem? h)
 have hz : DyN (92 * m + 92) (150 * m + 141) (0, 0) := DyN.zero _ _ (by omega)
 have hf : DyN (92 * m + 92) (150 * m + 142) (firstN A F k) := by
  unfold firstN
  split
  · exact hz.add ((hg k).mul hF)
  · exact hz.mono (by omega)
 unfold roundN
 split
 · exact (hf.add (((hg (k - 1)).mul hS).mono (by omega))).mono (by omega)
 · exact hf.mono (by omega)
theorem alongN_dy {F S : _root_.Rat × _root_.Rat} (hF : DyN 92 140 F) (hS : DyN 92 140 S) {l : List (Nat × Nat)} (hl : ∀ c ∈ l, DyN 92 140 (frat c.1, frat c.2)) : ∀ x ∈ alongN F S l, DyN (92 * l.length) (150 * l.length) x := by
 induction l with
 | nil => intro x hx; cases hx
 | cons c l ih =>
   intro x hx; have hA := ih (fun c' h' => hl c' (List.mem_cons_of_mem _ h'))
   have hc := hl c List.mem_cons_self; have e1 : 92 * (c :: l).length = 92 * l.length + 92 := by rw [List.length_cons]; omega
   have e2 : 150 * (c :: l).length = 150 * l.length + 150 := by rw [List.length_cons]; omega
   rw [e1, e2]
   have hc2 : DyN (92 * l.length + 92) (150 * l.length + 145) (frat c.1, frat c.2) := by
    have := hc.up (92 * l.length); rw [Nat.add_comm 92] at this; exact this.mono (by omega)
   rcases List.mem_cons.1 hx with rfl | hx
   · exact ((roundN_dy hA hF hS 0).add hc2).mono (by omega)
   · obtain ⟨k, -, rfl⟩ := List.mem_map.1 hx; exact (roundN_dy hA hF hS (k + 1)).mono (by omega)
theorem alongN_sm {F S : _root_.Rat × _root_.Rat} (hF : DyN 92 140 F) (hS : DyN 92 140 S) {l : List (Nat × Nat)} (hn : l.length ≤ 17) (hl : ∀ c ∈ l, DyN 92 140 (frat c.1, frat c.2)) : ∀ x ∈ alongN F S l, SmC x.1 81 ∧ SmC x.2 81 := by
 intro x hx; obtain ⟨h1, h2⟩ := alongN_dy hF hS hl x hx; exact ⟨⟨Nat.le_trans h1.num (by omega), Nat.le_trans h1.den (by omega)⟩, ⟨Nat.le_trans h2.num (by omega), Nat.le_trans h2.den (by omega)⟩⟩
theorem sA {α : Type} (l : List α) (i : Nat) (a : α) : l.toArray.setIfInBounds i a = (l.set i a).toArray := by simp
theorem sZ {α : Type} (x a : α) (l : List α) : (x :: l).set 0 a = a :: l := rfl
theorem sS {α : Type} (x a : α) (l : List α) (n : Nat) : (x :: l).set (n + 1) a = x :: l.set n a := rfl
section
variable {P : Program} {md : Region.Mode} {ops : Array Oper} {Q : Exit → Act → World → Prop} {S : World → Prop} {k : Nat}
theorem wpAnyL_q (i : Nat) {oi : Oper} {v : Value} {fuel : Nat} {listed : Array Bool} {a : Act} {w : World} (hi : ops[i]? = some oi) (h : wpAnyL P md ops Q S k fuel (listed.setIfInBounds i true) (a.put oi.dst v) w)
 (hy : YieldsIf P ops (fun _ => True) oi v a := by exact Or.inl ⟨by rfl, by intro w hSw; (try dsimp only at hSw); go_simp; all_goals (with_reducible rfl)⟩)
 (hs : Region.noSelect ops = true := by kernel_rfl) (hf : Region.free md ops listed i = true := by kernel_rfl) (hr : (Region.ready md ops listed).contains i = true := by kernel_rfl) (hik : decide (i < k) = true := by rfl)
 (hQ : ∀ c a w, Q (.panic c) (a.put oi.dst v) w → Q (.panic c) a w := by exact fun _ _ _ h => h) (hS : S w := by assumption) : wpAnyL P md ops Q S k (fuel + 1) listed a w :=
 wpAnyL_pure hi hs hf hr hik hQ hy hS h
theorem wpAnyL_r (i : Nat) {oi : Oper} {v : Value} {fuel : Nat} {listed : Array Bool} {a : Act} {w : World} (hi : ops[i]? = some oi) (h : wpAnyL P md ops Q S k fuel (listed.setIfInBounds i true) (a.put oi.dst v) w)
 (hy : YieldsIf P ops S oi v a := by exact Or.inl ⟨by rfl, by intro w hSw; (try dsimp only at hSw); go_simp; all_goals (with_reducible rfl)⟩)
 (hs : Region.noSelect ops = true := by kernel_rfl) (hf : Region.free md ops listed i = true := by kernel_rfl) (hr : (Region.ready md ops listed).contains i = true := by kernel_rfl) (hb : blockedB md ops i k (fuel + 1) listed = true := by kernel_rfl) (hl : lateB k listed = false := by kernel_rfl) (hik : decide (i < k) = true := by rfl)
 (hQ : ∀ c a w, Q (.panic c) (a.put oi.dst v) w → Q (.panic c) a w := by exact fun _ _ _ h => h) (hS : S w := by assumption) : wpAnyL P md ops Q S k (fuel + 1) listed a w :=
 wpAnyL_take hi hs hf hr hb hl hik hQ hy hS h
end
end Go.Proofs.YthjeejnggpjnjaaGreatDoor
