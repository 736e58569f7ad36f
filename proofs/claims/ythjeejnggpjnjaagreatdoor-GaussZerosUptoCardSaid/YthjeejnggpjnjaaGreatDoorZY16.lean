/- A part: CB, CE, CF, CG. -/
import Derived.Test.YthjeejnggpjnjaaGreatDoorZY15
set_option linter.unusedSimpArgs false
set_option linter.unusedVariables false
set_option maxRecDepth 100000
set_option maxHeartbeats 16000000
set_option synthInstance.maxHeartbeats 2000000
set_option synthInstance.maxSize 100000
namespace Go.Proofs.YthjeejnggpjnjaaGreatDoor
open Go.RowKit
theorem gaAtOk {w : World} {g off cap : Nat} {l : List (Nat × Nat)} {z : Nat × Nat} [hc : ClC w g off l] [hv : VrB w] (hl : okB l) (hz1 : z.1 < 18446744073709551616) (hz2 : z.2 < 18446744073709551616) (hn : ¬ (l.length < 1 ∨ 65 < l.length)) (ha : allF l = true) (fz1 : finB z.1 = true) (fz2 : finB z.2 = true) :
 Calls Tryz.prog 14 #[.slice (some ⟨g, off, none⟩) l.length cap, .complex .f64 z.1 z.2] w fun e w' => e = .returned (.tuple #[.agg #[.string (tS ((valAt (frat z.1) (frat z.2) l).1) ((valAt (frat z.1) (frat z.2) l).2) (strN ((valAt (frat z.1) (frat z.2) l).1).num)), .string (tS ((valAt (frat z.1) (frat z.2) l).1) ((valAt (frat z.1) (frat z.2) l).2) (strN ((valAt (frat z.1) (frat z.2) l).1).den)), .string (tS ((valAt (frat z.1) (frat z.2) l).1) ((valAt (frat z.1) (frat z.2) l).2) (strN ((valAt (frat z.1) (frat z.2) l).2).num)), .string (tS ((valAt (frat z.1) (frat z.2) l).1) ((valAt (frat z.1) (frat z.2) l).2) (strN ((valAt (frat z.1) (frat z.2) l).2).den))], .int .i64 (toldE ((valAt (frat z.1) (frat z.2) l).1) ((valAt (frat z.1) (frat z.2) l).2))]) ∧ Kp0 w w' := by
 have FL := hid (fun (j : Nat) (c : Nat × Nat) (h : l[j]? = some c) (v : World) => (show (finB c.1 && finB c.2) = true by rw [(allF_at h ha).1, (allF_at h ha).2]; rfl) ▸ gaFinC (w := v) (hl c (List.mem_of_getElem? h)).1 (hl c (List.mem_of_getElem? h)).2)
 have FZ := hid (fun v : World => (show (finB z.1 && finB z.2) = true by rw [fz1, fz2]; rfl) ▸ gaFinC (w := v) hz1 hz2)
 have CB := hid (fun (j : Nat) (c : Nat × Nat) (h : l[j]? = some c) => And.intro (hl c (List.mem_of_getElem? h)) (And.intro (fexp_fin (allF_at h ha).1) (fexp_fin (allF_at h ha).2)))
 have ez1 := fexp_fin fz1; have ez2 := fexp_fin fz2; have HG := hid hc.out; haveI := has_cl hc; obtain ⟨n, hn2⟩ : ∃ n, n = l.length := ⟨_, rfl⟩; rw [← hn2] at hn ⊢; have HL := hid hn2; have HN := hid hn; have SV := hid (fun j : Nat => valAt_sm (frat_dy z.1) (frat_dy z.2) (l := l.drop j) (by rw [List.length_drop, ← hn2]; omega))
 have SL0 := SV.out 0; rw [List.drop_zero] at SL0; obtain ⟨sl1, sl2⟩ := SL0; have h1 : ¬ (n : Int) < 1 := by omega
 have h2 : ¬ (65 : Int) < (n : Int) := by omega
 clear hn hn2 hl ha; go_enter Tryz.func14, Tryz.ntmps14; go_wp2_with fail
 go_loop [22] (fun s22 => ∃ j : Nat, s22 = .int .i64 j ∧ j ≤ n) (fun s22 => n - (intOf s22).toNat)
 case atStart => exact ⟨0, rfl, by omega⟩
 case round =>
  obtain ⟨j, rfl, hj⟩ := hrel; by_cases hjn : j = n
  · subst hjn; clear hj; have h65 : (j : Int) ≤ 65 := by omega
    have h1b : (1 : Int) ≤ (j : Int) := by omega
    go_wp2_with (first | (go_at_call 53; (with_reducible refine (FZ.out _).mono ?_); rintro e w' ⟨rfl, hw⟩; obtain rfl := hw.symm) | (go_at_call 54; (with_reducible refine Calls.mono (gaExact (hvr := ⟨VrC.out⟩) hz1 hz2 ez1 ez2) ?_); rintro e wc ⟨p0, q0, rfl, _, _, _⟩))
    go_loopw [10] (fun s10 wx => ∃ m : Nat, s10 = .int .i64 ((m : Int) - 1) ∧ m ≤ j ∧ ∃ p1 q1, BkC wx (wc.heap.size + 1 + 1 + 1) [.pointer (some ⟨p1, 0, none⟩), .pointer (some ⟨q1, 0, none⟩)] 82 ∧ RaC 88 wx p1 (valAt (frat z.1) (frat z.2) (l.drop m)).1 ∧ RaC 88 wx q1 (valAt (frat z.1) (frat z.2) (l.drop m)).2 ∧ Kp0 (((wc.alloc (.cells #[.bool false, .slice none 0 0, .slice none 0 0] 88)).alloc (.cells #[.bool false, .slice none 0 0, .slice none 0 0] 88)).alloc (.cells #[.pointer (some ⟨p0, 0, none⟩), .pointer (some ⟨q0, 0, none⟩)] 82)) wx) (fun s10 _ => (intOf s10 + 1).toNat)
    case atStart =>
     refine ⟨j, by go_num, Nat.le_refl _, _, _, inferInstance, ?_, ?_, ⟨Gr.out⟩⟩
     · rw [HL.out, List.drop_length]; show RaC 88 _ _ 0
       infer_instance
     · rw [HL.out, List.drop_length]; show RaC 88 _ _ 0
       infer_instance
    case round =>
     obtain ⟨m, rfl, hm, p1, q1, ib, ip, iq, ik⟩ := hrel; rcases m with _ | m
     · have hneg : ¬ (0 : Int) ≤ ((0 : Nat) : Int) - 1 := by omega
       rw [List.drop_zero] at ip iq; have c0 := ib.out.cell (i := 0) rfl; have c1 := ib.out.cell (i := 1) rfl; go_wp2_with ((go_at_call 57; (with_reducible refine Calls.mono (gaToldC (by decide) (by decide)) ?_); rintro e wc ⟨rfl, _⟩))
       refine ret_cell_tmp rfl rfl rfl (by rfl) (by rfl) (by rfl) ?_
       exact ⟨rfl, ⟨Gr.out⟩⟩
     · rw [show ((m + 1 : Nat) : Int) - 1 = (m : Int) by omega]
       have hI : (m : Int) < (j : Int) := by omega
       have h0 : (0 : Int) ≤ (m : Int) := by omega
       obtain ⟨c, hcj⟩ : ∃ c, l[m]? = some c := ⟨_, List.getElem?_eq_getElem (by rw [← HL.out]; omega)⟩
       have HJ := hid hcj; have HV := hid (valAt_drop (X := frat z.1) (Y := frat z.2) hcj); obtain ⟨⟨cb1, cb2⟩, ce1, ce2⟩ := CB.out m c hcj; obtain ⟨sv1, sv2⟩ := SV.out (m + 1); have HM := hid hm; have c0 := ib.out.cell (i := 0) rfl; have c1 := ib.out.cell (i := 1) rfl; have f0 := ib.out.free 0; have f1 := ib.out.free 1; clear hcj hm; go_wp2_with fail
       refine wp_region_late (S := (fun W => W.cell? ⟨wc.heap.size + 1 + 1 + 1, 0, none⟩ = some (.pointer (some ⟨p1, 0, none⟩)) ∧ W.cell? ⟨wc.heap.size + 1 + 1 + 1, 1, none⟩ = some (.pointer (some ⟨q1, 0, none⟩)) ∧ W.cell? ⟨wc.heap.size + 1 + 1, 0, none⟩ = some (.pointer (some ⟨p0, 0, none⟩)) ∧ W.cell? ⟨wc.heap.size + 1 + 1, 1, none⟩ = some (.pointer (some ⟨q0, 0, none⟩)) ∧ W.cell? ⟨g, off + m, none⟩ = some (.complex .f64 c.1 c.2))) 9 (by kernel_rfl) ?_ (fun hHeld => ?_)
       · (refine ⟨?_, ?_, ?_, ?_, ?_⟩ <;> (first | exact Bk.cell BkC.out rfl | exact Cl.cell ClC.out HJ.out | (simp [go_sem]; done)))
       refine wpAnyL_q 3 rfl ?_
       try simp only [Act.put, sA, sZ, sS]
       refine wpAnyL_q 4 rfl ?_
       try simp only [Act.put, sA, sZ, sS]
       refine wpAnyL_q 5 rfl ?_
       try simp only [Act.put, sA, sZ, sS]
       refine wpAnyL_r 0 rfl ?_
       try simp only [Act.put, sA, sZ, sS]
       refine wpAnyL_r 1 rfl ?_
       try simp only [Act.put, sA, sZ, sS]
       refine wpAnyL_r 6 rfl ?_
       try simp only [Act.put, sA, sZ, sS]
       refine wpAnyL_ready (rs := [2]) (by kernel_rfl) (by simp) ?_
       refine AllReadyL.early rfl (fun K hK => ?_) AllReadyL.nil
       go_simp
       (go_at_call 55; (with_reducible refine Calls.mono (gaMulC (by decide) (by decide) (by decide) (by decide)) ?_); rintro e wc ⟨_, _, rfl, _, _, _⟩)
       refine hK.out _ _ ?_ (fun hHeld => ?_)
       · (refine ⟨?_, ?_, ?_, ?_, ?_⟩ <;> (first | exact Bk.cell BkC.out rfl | exact Cl.cell ClC.out HJ.out | (simp [go_sem]; done)))
       clear hK K
       try simp only [Act.put, sA, sZ, sS]
       refine wpAnyL_ready (rs := [7]) (by kernel_rfl) (by simp) ?_
       refine AllReadyL.early rfl (fun K hK => ?_) AllReadyL.nil
       go_simp
       (go_at_call 54; (with_reducible refine Calls.mono (gaExact (hvr := ⟨VrC.out⟩) cb1 cb2 ce1 ce2) ?_); rintro e wc ⟨_, _, rfl, _, _, _⟩)
       refine hK.out _ _ ?_ (fun hHeld => ?_)
       · (refine ⟨?_, ?_, ?_, ?_, ?_⟩ <;> (first | exact Bk.cell BkC.out rfl | exact Cl.cell ClC.out HJ.out | (simp [go_sem]; done)))
       clear hK K
       try simp only [Act.put, sA, sZ, sS]
       refine wpAnyL_ready (rs := [8]) (by kernel_rfl) (by simp) ?_
       refine AllReadyL.early rfl (fun K hK => ?_) AllReadyL.nil
       go_simp
       (go_at_call 56; (with_reducible refine Calls.mono (gaAddC (by decide) (by decide) (by decide) (by decide)) ?_); rintro e wc ⟨p2, q2, rfl, hp2, hq2, _⟩)
       refine hK.out _ _ ?_ (fun hHeld => ?_)
       · (refine ⟨?_, ?_, ?_, ?_, ?_⟩ <;> (first | exact Bk.cell BkC.out rfl | exact Cl.cell ClC.out HJ.out | (simp [go_sem]; done)))
       clear hK K
       try simp only [Act.put, sA, sZ, sS]
       refine wpAnyL_ready (rs := [9]) (by kernel_rfl) (by simp) ?_
       refine AllReadyL.late rfl (by kernel_rfl) (fun K hK => ?_) AllReadyL.nil
       go_simp
       refine hK.out _ _ ?_
       clear hK K
       try simp only [Act.put, sA, sZ, sS]
       refine wpAnyL_done (by kernel_rfl) ?_ _
       skip
       all_goals (go_wp2_with fail)
       all_goals go_round
       all_goals first
        | (refine ⟨m, by go_num, Nat.le_of_succ_le HM.out, _, _, inferInstance, ?_, ?_, ⟨Gr.out⟩⟩
           · rw [HV.out]; show RaC 88 _ _ ((valAt (frat z.1) (frat z.2) (l.drop (m + 1))).1 * frat z.1 - (valAt (frat z.1) (frat z.2) (l.drop (m + 1))).2 * frat z.2 + frat c.1)
             infer_instance
           · rw [HV.out]; show RaC 88 _ _ ((valAt (frat z.1) (frat z.2) (l.drop (m + 1))).1 * frat z.2 + (valAt (frat z.1) (frat z.2) (l.drop (m + 1))).2 * frat z.1 + frat c.2)
             infer_instance)
        | (simp [intOf]; done)
        | (simp [intOf]; omega)
  · have hlt : j < n := by omega
    have hI : (j : Int) < (n : Int) := by omega
    have h0 : (0 : Int) ≤ (j : Int) := by omega
    obtain ⟨c, hcj⟩ : ∃ c, l[j]? = some c := ⟨_, List.getElem?_eq_getElem (by rw [← HL.out]; exact hlt)⟩
    have cj := HG.out.cell hcj; have FJ := hid (FL.out j c hcj); clear hcj hjn hj; go_wp2_with (go_at_call 53; (with_reducible refine (FJ.out _).mono ?_); rintro e w' ⟨rfl, hw⟩; obtain rfl := hw.symm)
    go_round
    case rel => exact ⟨j + 1, by go_num, by omega⟩
    case measure => first | (simp [intOf]; done) | (simp [intOf]; omega)
section
variable {α : Type}
structure EOk (T : Nat) (E : World → Value → α → Prop) : Prop where
 ne : T ≠ 190
 below : ∀ {w w' : World} {u : Value} {x : α}, E w u x → Below w.heap.size w w' → E w' u x
 keep : ∀ {w w' : World} {g : Nat} {C : Array Value} {u : Value} {x : α}, w.heap[g]? = some (.cells C T (0, 0)) → Keeps w.heap.size [g] w w' → E w u x → E w' u x
 one : ∀ {w : World} {u : Value} {x : α}, E w u x → u.oneCell' = true
theorem EOk.set {T : Nat} {E : World → Value → α → Prop} (e : EOk T E) {w : World} {g : Nat} {C : Array Value} {i : Nat} {v u : Value} {x : α} (h : w.heap[g]? = some (.cells C T (0, 0))) (k : E w u x) : E (w.setCell ⟨g, i, none⟩ v) u x :=
 e.keep h ((Keeps.refl _ _ _).set (Or.inl (List.mem_singleton.2 rfl)) i v) k
def Rw (T : Nat) (E : World → Value → α → Prop) (w : World) (v : Value) (l : List α) : Prop :=
 ∃ a cap, v = .slice a l.length cap ∧ l.length ≤ cap ∧ (0 < l.length → ∃ g off C, a = some ⟨g, off, none⟩ ∧ w.heap[g]? = some (.cells C T (0, 0)) ∧ ∀ (i : Nat) (x : α), l[i]? = some x → ∃ u, C[off + i]? = some u ∧ E w u x)
variable {T : Nat} {E : World → Value → α → Prop}
theorem Rw.below (e : EOk T E) {w w' : World} {v : Value} {l : List α} (h : Rw T E w v l) (b : Below w.heap.size w w') : Rw T E w' v l := by
 obtain ⟨a, cap, h1, h2, h3⟩ := h; refine ⟨a, cap, h1, h2, fun hl => ?_⟩
 obtain ⟨g, off, C, k1, k2, k3⟩ := h3 hl; refine ⟨g, off, C, k1, (b.block g (lt_of_block k2)).trans k2, fun i x hx => ?_⟩
 obtain ⟨u, q1, q2⟩ := k3 i x hx; exact ⟨u, q1, e.below q2 b⟩
theorem Rw.nil (w : World) : Rw T E w (.slice none 0 0) ([] : List α) := ⟨none, 0, rfl, Nat.le_refl _, fun h => by cases h⟩
theorem Rw.take {w : World} {a : Option Addr} {n cap : Nat} {l : List α} (h : Rw T E w (.slice a n cap) l) {k : Nat} (hk : k ≤ l.length) : Rw T E w (.slice a k cap) (l.take k) := by
 obtain ⟨a', cap', h1, h2, h3⟩ := h; simp only [Value.slice.injEq] at h1; obtain ⟨rfl, rfl, rfl⟩ := h1; refine ⟨a, cap, by rw [List.length_take, Nat.min_eq_left hk], by rw [List.length_take]; omega, fun hl => ?_⟩
 obtain ⟨g, off, C, k1, k2, k3⟩ := h3 (by rw [List.length_take] at hl; omega)
 refine ⟨g, off, C, k1, k2, fun i x hx => ?_⟩
 rw [List.getElem?_take] at hx
 split at hx
 · exact k3 i x hx
 · cases hx
theorem Rw.at {w : World} {a : Option Addr} {n cap : Nat} {l : List α} (h : Rw T E w (.slice a n cap) l) {i : Nat} {x : α} (hx : l[i]? = some x) : ∃ g off u, a = some ⟨g, off, none⟩ ∧ g < w.heap.size ∧ w.cell? ⟨g, off + i, none⟩ = some u ∧ E w u x := by
 obtain ⟨a', cap', h1, h2, h3⟩ := h; simp only [Value.slice.injEq] at h1; obtain ⟨rfl, rfl, rfl⟩ := h1; obtain ⟨hi, -⟩ := List.getElem?_eq_some_iff.1 hx; obtain ⟨g, off, C, k1, k2, k3⟩ := h3 (by omega)
 obtain ⟨u, q1, q2⟩ := k3 i x hx; exact ⟨g, off, u, k1, lt_of_block k2, by rw [cell_of_block k2]; exact q1, q2⟩
theorem Rw.form {w : World} {v : Value} {l : List α} (h : Rw T E w v l) : ∃ a cap, v = .slice a l.length cap ∧ l.length ≤ cap := by
 obtain ⟨a, cap, h1, h2, -⟩ := h; exact ⟨a, cap, h1, h2⟩
def Fl (T : Nat) (E : World → Value → α → Prop) (w : World) (g n : Nat) (l : List α) (j : Nat) : Prop :=
 ∃ C : Array Value, w.heap[g]? = some (.cells C T (0, 0)) ∧ C.size = n ∧ ∀ (i : Nat) (x : α), i < j → l[i]? = some x → ∃ u, C[i]? = some u ∧ E w u x
theorem Fl.below (e : EOk T E) {w w' : World} {g n j : Nat} {l : List α} (h : Fl T E w g n l j) (b : Below w.heap.size w w') : Fl T E w' g n l j := by
 obtain ⟨C, h1, h2, h3⟩ := h; refine ⟨C, (b.block g (lt_of_block h1)).trans h1, h2, fun i x hi hx => ?_⟩
 obtain ⟨u, q1, q2⟩ := h3 i x hi hx; exact ⟨u, q1, e.below q2 b⟩
theorem Fl.lt {w : World} {g n j : Nat} {l : List α} (h : Fl T E w g n l j) : g < w.heap.size := by
 obtain ⟨C, h1, -⟩ := h; exact lt_of_block h1
theorem Fl.slot {w : World} {g n j i : Nat} {l : List α} (h : Fl T E w g n l j) (hi : i < n) : (∃ u, w.cell? ⟨g, i, none⟩ = some u) ∧ w.frozen? ⟨g, i, none⟩ = false := by
 obtain ⟨C, h1, h2, -⟩ := h; refine ⟨⟨C[i], ?_⟩, free_of_block h1 i⟩
 rw [cell_of_block h1]; exact Array.getElem?_eq_getElem (by omega)
theorem Fl.put (e : EOk T E) {w : World} {g n j : Nat} {l : List α} {u : Value} {x : α} (h : Fl T E w g n l j) (hj : j < n) (hx : l[j]? = some x) (hu : E w u x) : Fl T E (w.setCell ⟨g, j, none⟩ u) g n l (j + 1) := by
 obtain ⟨C, h1, h2, h3⟩ := h; refine ⟨C.setIfInBounds j u, set_of_block h1 j u, by rw [Array.size_setIfInBounds]; exact h2, fun i y hi hy => ?_⟩
 rw [Array.getElem?_setIfInBounds]; by_cases hij : j = i
 · subst hij; rw [if_pos rfl, if_pos (by omega)]
   rw [hx] at hy; obtain rfl := Option.some.inj hy; exact ⟨u, rfl, e.set h1 hu⟩
 · rw [if_neg hij]; obtain ⟨v, q1, q2⟩ := h3 i y (by omega) hy
   exact ⟨v, q1, e.set h1 q2⟩
theorem Fl.done {w : World} {g n j : Nat} {l : List α} (h : Fl T E w g n l j) (hj : l.length ≤ j) (hn : n = l.length) : Rw T E w (.slice (some ⟨g, 0, none⟩) n n) l := by
 obtain ⟨C, h1, h2, h3⟩ := h; subst hn; refine ⟨_, _, rfl, Nat.le_refl _, fun _ => ⟨g, 0, C, rfl, h1, fun i x hx => ?_⟩⟩
 obtain ⟨hi, -⟩ := List.getElem?_eq_some_iff.1 hx; rw [Nat.zero_add]; exact h3 i x (by omega) hx
def Ox (T : Nat) (E : World → Value → α → Prop) (base : Nat) (w : World) (v : Value) (l : List α) : Prop := ∃ xs : List Value, w.ownsRow base T 1 v l.length xs ∧ ∀ (i : Nat) (x : α), l[i]? = some x → ∃ u, xs[i]? = some u ∧ E w u x
theorem Ox.nil (base : Nat) (w : World) : Ox T E base w (.slice none 0 0) ([] : List α) := ⟨[], ⟨rfl, .inl ⟨rfl, rfl⟩⟩, fun i x h => by cases h⟩
theorem Ox.rw {base : Nat} {w : World} {v : Value} {l : List α} (h : Ox T E base w v l) : Rw T E w v l := by
 obtain ⟨xs, ⟨h1, h2⟩, h3⟩ := h; rcases h2 with ⟨rfl, hl⟩ | ⟨g, cap, cur, rfl, hb, hg, hc, hm, hs, ht⟩
 · rw [List.length_eq_zero_iff.1 hl]; exact Rw.nil w
 · refine ⟨_, _, rfl, hc, fun _ => ⟨g, 0, cur, rfl, hg, fun i x hx => ?_⟩⟩
   obtain ⟨u, q1, q2⟩ := h3 i x hx; refine ⟨u, ?_, q2⟩
   rw [← ht, List.getElem?_take] at q1
   split at q1
   · rw [Nat.zero_add, ← Array.getElem?_toList]; exact q1
   · cases q1
theorem Ox.below (e : EOk T E) {base : Nat} {w w' : World} {v : Value} {l : List α} (h : Ox T E base w v l) (b : Below w.heap.size w w') : Ox T E base w' v l := by
 obtain ⟨xs, ⟨h1, h2⟩, h3⟩ := h; refine ⟨xs, ⟨h1, ?_⟩, fun i x hx => ?_⟩
 · rcases h2 with h | ⟨g, cap, cur, rfl, hb, hg, hc, hm, hs, ht⟩
   · exact .inl h
   · exact .inr ⟨g, cap, cur, rfl, hb, (b.block g (lt_of_block hg)).trans hg, hc, hm, hs, ht⟩
 · obtain ⟨u, q1, q2⟩ := h3 i x hx; exact ⟨u, q1, e.below q2 b⟩
theorem Rw.news {w : World} {a : Option Addr} {m c : Nat} {l : List α} (h : Rw T E w (.slice a m c) l) (hl : 0 < l.length) : ∃ g off, a = some ⟨g, off, none⟩ ∧ ∃ news : List Value, news.length = m ∧ (∀ (j : Nat) (u : Value), news[j]? = some u → w.cell? ((⟨g, off, none⟩ : Addr).add j) = some u) ∧ ∀ (j : Nat) (x : α), l[j]? = some x → ∃ u, news[j]? = some u ∧ E w u x := by
 obtain ⟨a', cap', h1, h2, h3⟩ := h; simp only [Value.slice.injEq] at h1; obtain ⟨rfl, rfl, rfl⟩ := h1; obtain ⟨g, off, C, k1, k2, k3⟩ := h3 hl
 have hsz : off + l.length ≤ C.size := by
  have hx := List.getElem?_eq_getElem (show l.length - 1 < l.length by omega)
  obtain ⟨u, q1, -⟩ := k3 _ _ hx; obtain ⟨hlt, -⟩ := Array.getElem?_eq_some_iff.1 q1; omega
 refine ⟨g, off, k1, (C.toList.drop off).take l.length, ?_, fun j u hu => ?_, fun j x hx => ?_⟩
 · have := Array.length_toList (xs := C); rw [List.length_take, List.length_drop]; omega
 · rw [List.getElem?_take] at hu
   split at hu
   · rw [List.getElem?_drop, Array.getElem?_toList] at hu; have e : (⟨g, off, none⟩ : Addr).add j = ⟨g, off + j, none⟩ := by simp [Addr.add]
     rw [e, cell_of_block k2]; exact hu
   · cases hu
 · obtain ⟨u, q1, q2⟩ := k3 j x hx; obtain ⟨hj, -⟩ := List.getElem?_eq_some_iff.1 hx; refine ⟨u, ?_, q2⟩
   rw [List.getElem?_take, if_pos hj, List.getElem?_drop, Array.getElem?_toList]; exact q1
theorem app_row (e : EOk T E) {ops : Array Oper} {rest : List Oper} {o : Oper} {a : Act} {w : World} {Q : Exit → Act → World → Prop} (hgd : o.guard = none) (s x : Operand) (t : TypeId)
 (ho : o.op = .call { callee := .builtin .append, args := #[s, x], argTypes := #[t, t] }) (base : Nat) (i : TypeInfo) (z : Value) (bytes : Nat) (ht : Tryz.prog.underlying t = some (.slice T)) (hi : Tryz.prog.info? T = some i) (hz : i.zero = some z)
 (hsize : i.size = 1) (hby : i.bytes = bytes) (hzs : z.cells.size = 1) (hb64 : bytes ≤ 64) {v : Value} {l m : List α} (hs : a.eval s = v) (hown : Ox T E base w v l)
 {ad : Option Addr} {k c : Nat} (hx : a.eval x = .slice ad k c) (hm : Rw T E w (.slice ad k c) m) (h0 : 0 < m.length) (hlen : l.length + m.length ≤ 1048576) (hbase : base ≤ w.heap.size)
 (h : ∀ g cap n' w', n' = l.length + m.length → Ox T E base w' (.slice (some ⟨g, 0, none⟩) n' cap) (l ++ m) → base ≤ g → (∀ v0 : World, v0.heap.size ≤ base → Below v0.heap.size v0 w → Below v0.heap.size v0 w') → (∀ u y, E w u y → E w' u y) → wpList Tryz.prog ops Q rest (a.put o.dst (.slice (some ⟨g, 0, none⟩) n' cap)) w') :
 wpList Tryz.prog ops Q (o :: rest) a w := by
 obtain ⟨g0, off0, rfl, news, hl, hc, hE⟩ := hm.news h0
 obtain ⟨cap0, hk, -⟩ : ∃ cap0, k = m.length ∧ cap0 = c := by
  obtain ⟨a', cap', h1, -, -⟩ := hm; simp only [Value.slice.injEq] at h1; exact ⟨c, h1.2.1, rfl⟩
 subst hk; obtain ⟨xs, hown2, hEx⟩ := hown
 have h1c : ∀ u ∈ news, u.oneCell' = true := by
  intro u hu; obtain ⟨j, hj⟩ := List.getElem?_of_mem hu; obtain ⟨hjl, -⟩ := List.getElem?_eq_some_iff.1 hj; obtain ⟨u', q1, q2⟩ := hE j m[j] (List.getElem?_eq_getElem (by omega))
  rw [hj] at q1; rw [Option.some.inj q1]; exact e.one q2
 have hby2 : (l.length + m.length) * bytes ≤ 140737488355328 := by
  have : (l.length + m.length) * bytes ≤ 1048576 * 64 := Nat.mul_le_mul hlen hb64; omega
 refine wpList_append_lies w hgd s x t ho base T i z 1 bytes ht hi hz hsize hby hzs (by decide) v l.length xs hs hown2 ⟨g0, off0, none⟩ m.length c news hx (by omega) hc h1c h0 (by unfold maxLen; omega) hby2 hbase _ rfl (fun g cap w' r1 r2 r3 r4 => ?_)
 have hxl : xs.length = l.length := by rw [hown2.1, Nat.mul_one]
 have kE : ∀ u y, E w u y → E w' u y := by
  intro u y hu; rcases hown2.2 with ⟨rfl, -⟩ | ⟨g1, cap1, cur1, rfl, hb1, hg1, -⟩
  · exact e.below hu (Keeps.below ⟨r2.os, r2.tape, r2.output, r2.size, fun q hq _ => r2.block q hq (by simp [Value.ownBlock])⟩)
  · exact e.keep hg1 ⟨r2.os, r2.tape, r2.output, r2.size, fun q hq hn => r2.block q hq (by simpa [Value.ownBlock] using hn)⟩ hu
 have hgb : base ≤ g := by
  rcases r1.2 with ⟨hh, -⟩ | ⟨g2, cap2, cur2, hh, hb2, -⟩
  · cases hh
  · simp only [Value.slice.injEq, Option.some.injEq, Addr.mk.injEq] at hh; omega
 refine h g cap _ w' rfl ⟨xs ++ news, ?_, fun j y hy => ?_⟩ hgb (fun v0 hv hb => ?_) kE
 · rw [List.length_append]; exact r1
 · rcases Nat.lt_or_ge j l.length with hj | hj
   · rw [List.getElem?_append_left hj] at hy; obtain ⟨u, q1, q2⟩ := hEx j y hy; exact ⟨u, by rw [List.getElem?_append_left (by omega)]; exact q1, kE _ _ q2⟩
   · rw [List.getElem?_append_right hj] at hy; obtain ⟨u, q1, q2⟩ := hE _ y hy; exact ⟨u, by rw [List.getElem?_append_right (by omega), hxl]; exact q1, kE _ _ q2⟩
 · refine ⟨r2.os.trans hb.os, r2.tape.trans hb.tape, r2.output.trans hb.output, Nat.le_trans hb.size r2.size, fun q hq => ?_⟩
   refine (r2.block q (Nat.lt_of_lt_of_le hq hb.size) (fun hh => ?_)).trans (hb.block q hq)
   rcases hown2.2 with ⟨rfl, -⟩ | ⟨g1, cap1, cur1, rfl, hb1, -⟩
   · cases hh
   · simp only [Value.ownBlock, Option.some.injEq] at hh; omega
end
def EI (w : World) (u : Value) (x : Int) : Prop := ∃ k, u = .pointer (some ⟨k, 0, none⟩) ∧ In 86 w k x
theorem In.keepO {w w' : World} {k g T : Nat} {n : Int} {C : Array Value} {R : Nat} (h : In R w k n) (hg : w.heap[g]? = some (.cells C T (0, 0))) (kp : Keeps w.heap.size [g] w w') (hT : T ≠ 190) (hR : R ≠ T) : In R w' k n := by
 have hb : Bk w g C.toList T := ⟨hg, hT⟩
 have hk : k ≠ g := by
  obtain ⟨_, b, -⟩ := h; exact b.ne hb hR
 exact h.keep hb kp hk
theorem eok_EI : EOk 160 EI where
 ne := by decide
 below := by
  rintro w w' u x ⟨k, rfl, h⟩ b; exact ⟨k, rfl, h.below b⟩
 keep := by
  rintro w w' g C u x hg kp ⟨k, rfl, h⟩; exact ⟨k, rfl, h.keepO hg kp (by decide) (by decide)⟩
 one := by
  rintro w u x ⟨k, rfl, h⟩; rfl
def ER (R : Nat) (w : World) (u : Value) (x : _root_.Rat) : Prop := ∃ k, u = .pointer (some ⟨k, 0, none⟩) ∧ Ra R w k x
theorem Ra.keepO {w w' : World} {k g T R : Nat} {n : _root_.Rat} {C : Array Value} (h : Ra R w k n) (hg : w.heap[g]? = some (.cells C T (0, 0))) (kp : Keeps w.heap.size [g] w w') (hT : T ≠ 190) (hR : R ≠ T) : Ra R w' k n := by
 have hb : Bk w g C.toList T := ⟨hg, hT⟩
 have hk : k ≠ g := by
  obtain ⟨_, _, b, -⟩ := h; exact b.ne hb hR
 exact h.keep hb kp hk
theorem eok_ER {R T : Nat} (hT : T ≠ 190) (hR : R ≠ T) : EOk T (ER R) where
 ne := hT
 below := by
  rintro w w' u x ⟨k, rfl, h⟩ b; exact ⟨k, rfl, h.below b⟩
 keep := by
  rintro w w' g C u x hg kp ⟨k, rfl, h⟩; exact ⟨k, rfl, h.keepO hg kp hT hR⟩
 one := by
  rintro w u x ⟨k, rfl, h⟩; rfl
theorem eok_rw {α : Type} {S T : Nat} {E : World → Value → α → Prop} (e : EOk S E) (hT : T ≠ 190) (hST : S ≠ T) (hE : ∀ {w w' : World} {g : Nat} {C : Array Value} {u : Value} {x : α}, w.heap[g]? = some (.cells C T (0, 0)) → Keeps w.heap.size [g] w w' → E w u x → E w' u x) : EOk T (Rw S E) where
 ne := hT
 below := fun h b => h.below e b
 keep := by
  rintro w w' g C u x hg kp ⟨a, cap, h1, h2, h3⟩; refine ⟨a, cap, h1, h2, fun hl => ?_⟩
  obtain ⟨k, off, D, k1, k2, k3⟩ := h3 hl
  have hkg : k ≠ g := by
   intro he; subst he; rw [k2] at hg; simp only [Option.some.injEq, Obj.cells.injEq] at hg; exact hST hg.2.1
  refine ⟨k, off, D, k1, (kp.block k (lt_of_block k2) (by simpa using hkg)).trans k2, fun j y hy => ?_⟩
  obtain ⟨z, q1, q2⟩ := k3 j y hy; exact ⟨z, q1, hE hg kp q2⟩
 one := by
  rintro w u x ⟨a, cap, rfl, -, -⟩; rfl
theorem eok_EZ : EOk 101 (Rw 160 EI) := eok_rw eok_EI (by decide) (by decide) (by
 rintro w w' g C u x hg kp ⟨k, rfl, h⟩; exact ⟨k, rfl, h.keepO hg kp (by decide) (by decide)⟩)
class InC (w : World) (g : Nat) (x : outParam Int) : Prop where
 out : In 86 w g x
instance blk_in (w : World) (g : Nat) (x : Int) [h : InC w g x] : Blk w g := ⟨by obtain ⟨_, hb, -⟩ := h.out; exact ⟨_, _, hb⟩⟩
instance inC_alloc (w : World) (g : Nat) (x : Int) (o : Obj) [h : InC w g x] : InC (w.alloc o) g x := ⟨h.out.below ((Below.refl _ _).alloc (Nat.le_refl _) _)⟩
instance inC_drew (w : World) (g : Nat) (x : Int) [h : InC w g x] : InC w.drew g x := ⟨h.out.below (Below.drew (Below.refl _ _))⟩
instance inC_kp0 (W w' : World) (g : Nat) (x : Int) [k : Kp0 W w'] [h : InC W g x] : InC w' g x := ⟨h.out.below k.out⟩
instance inC_kp1 (W w' : World) (g n : Nat) (x : Int) [k : Kp1 W n w'] [e : NeN g n] [b : Blk W n] [h : InC W g x] : InC w' g x := ⟨by
 obtain ⟨L, T, hb⟩ := b.out; exact h.out.keep hb k.out e.out⟩
instance inC_set (w : World) (g n i : Nat) (v : Value) (x : Int) [e : NeN g n] [b : Blk w n] [h : InC w g x] : InC (w.setCell ⟨n, i, none⟩ v) g x := ⟨by
 obtain ⟨L, T, hb⟩ := b.out; exact h.out.keep hb ((Keeps.refl _ _ _).set (Or.inl (List.mem_singleton.2 rfl)) i v) e.out⟩
instance has_in (w : World) (g : Nat) (x : Int) [h : InC w g x] : Has w g := ⟨h.out.lt⟩
instance (priority := 600) inC_fr (W : World) (g : Nat) [h : BkC W g [.bool false, .slice none 0 0] 86] : InC W g 0 := ⟨.slice none 0 0, h.out, by rw [show (0 : Int).natAbs = 0 from rfl, words_0]; exact Wd.nil _⟩
theorem InC.two {w : World} {g : Nat} {x : Int} (h : InC w g x) : ∃ a b, Bk w g [a, b] 86 := by
 obtain ⟨v, hb, -⟩ := h.out; exact ⟨_, _, hb⟩
theorem biMulC {W : World} {gz gx gy : Nat} {x y z : Int} [hz : InC W gz z] [hx : InC W gx x] [hy : InC W gy y] (ln : (words x.natAbs).length + (words y.natAbs).length ≤ 137438953472) :
 Calls Tryz.prog 115 #[.pointer (some ⟨gz, 0, none⟩), .pointer (some ⟨gx, 0, none⟩), .pointer (some ⟨gy, 0, none⟩)] W fun e w' => e = .returned (.pointer (some ⟨gz, 0, none⟩)) ∧ InC w' gz (x * y) ∧ Kp1 W gz w' := by
 obtain ⟨a, b, bz⟩ := hz.two; refine (biMul gz gx gy 86 _ _ [] x y W bz hx.out.ia hy.out.ia ln (x * y) rfl).mono ?_
 rintro e w' ⟨rfl, h1, h2⟩; exact ⟨rfl, ⟨h1⟩, ⟨h2⟩⟩
theorem biAddC {W : World} {gz gx gy : Nat} {x y z : Int} [hz : InC W gz z] [hx : InC W gx x] [hy : InC W gy y] (lx : (words x.natAbs).length ≤ 137438953472) (ly : (words y.natAbs).length ≤ 137438953472) :
 Calls Tryz.prog 170 #[.pointer (some ⟨gz, 0, none⟩), .pointer (some ⟨gx, 0, none⟩), .pointer (some ⟨gy, 0, none⟩)] W fun e w' => e = .returned (.pointer (some ⟨gz, 0, none⟩)) ∧ InC w' gz (x + y) ∧ Kp1 W gz w' := by
 obtain ⟨a, b, bz⟩ := hz.two; refine (biaddI gz gx gy _ _ x y W bz hx.out hy.out lx ly (x + y) rfl).mono ?_
 rintro e w' ⟨rfl, h1, h2⟩; exact ⟨rfl, ⟨h1⟩, ⟨h2⟩⟩
theorem biSubC {W : World} {gz gx gy : Nat} {x y z : Int} [hz : InC W gz z] [hx : InC W gx x] [hy : InC W gy y] (lx : (words x.natAbs).length ≤ 137438953472) (ly : (words y.natAbs).length ≤ 137438953472) :
 Calls Tryz.prog 168 #[.pointer (some ⟨gz, 0, none⟩), .pointer (some ⟨gx, 0, none⟩), .pointer (some ⟨gy, 0, none⟩)] W fun e w' => e = .returned (.pointer (some ⟨gz, 0, none⟩)) ∧ InC w' gz (x - y) ∧ Kp1 W gz w' := by
 obtain ⟨a, b, bz⟩ := hz.two; refine (bisubI gz gx gy _ _ x y W bz hx.out hy.out lx ly (x - y) rfl).mono ?_
 rintro e w' ⟨rfl, h1, h2⟩; exact ⟨rfl, ⟨h1⟩, ⟨h2⟩⟩
theorem biNegC {W : World} {gz gx : Nat} {x z : Int} [hz : InC W gz z] [hx : InC W gx x] (lx : (words x.natAbs).length ≤ 1099511627776) :
 Calls Tryz.prog 167 #[.pointer (some ⟨gz, 0, none⟩), .pointer (some ⟨gx, 0, none⟩)] W fun e w' => e = .returned (.pointer (some ⟨gz, 0, none⟩)) ∧ InC w' gz (-x) ∧ Kp1 W gz w' := by
 obtain ⟨a, b, bz⟩ := hz.two; refine (biNeg gz gx 86 _ _ [] x W bz hx.out.ia lx (-x) rfl).mono ?_
 rintro e w' ⟨rfl, h1, h2⟩; exact ⟨rfl, ⟨h1⟩, ⟨h2⟩⟩
theorem biSetC {W : World} {gz gx : Nat} {x z : Int} [hz : InC W gz z] [hx : InC W gx x] (lx : (words x.natAbs).length ≤ 1099511627776) :
 Calls Tryz.prog 166 #[.pointer (some ⟨gz, 0, none⟩), .pointer (some ⟨gx, 0, none⟩)] W fun e w' => e = .returned (.pointer (some ⟨gz, 0, none⟩)) ∧ InC w' gz (x) ∧ Kp1 W gz w' := by
 obtain ⟨a, b, bz⟩ := hz.two; refine (biSet gz gx 86 _ _ [] x W bz hx.out.ia lx (x) rfl).mono ?_
 rintro e w' ⟨rfl, h1, h2⟩; exact ⟨rfl, ⟨h1⟩, ⟨h2⟩⟩
theorem biAbsC {W : World} {gz gx : Nat} {x z : Int} [hz : InC W gz z] [hx : InC W gx x] (lx : (words x.natAbs).length ≤ 1099511627776) :
 Calls Tryz.prog 165 #[.pointer (some ⟨gz, 0, none⟩), .pointer (some ⟨gx, 0, none⟩)] W fun e w' => e = .returned (.pointer (some ⟨gz, 0, none⟩)) ∧ InC w' gz ((x.natAbs : Int)) ∧ Kp1 W gz w' := by
 obtain ⟨a, b, bz⟩ := hz.two; refine (biAbs gz gx 86 _ _ [] x W bz hx.out.ia lx ((x.natAbs : Int)) rfl).mono ?_
 rintro e w' ⟨rfl, h1, h2⟩; exact ⟨rfl, ⟨h1⟩, ⟨h2⟩⟩
theorem biGcdC {W : World} {gz gx gy : Nat} {x y z : Int} [hz : InC W gz z] [hx : InC W gx x] [hy : InC W gy y] [hv : VrC W] (lx : (words x.natAbs).length ≤ 137438953472) (ly : (words y.natAbs).length ≤ 137438953472) :
 Calls Tryz.prog 161 #[.pointer (some ⟨gz, 0, none⟩), .pointer none, .pointer none, .pointer (some ⟨gx, 0, none⟩), .pointer (some ⟨gy, 0, none⟩)] W fun e w' => e = .returned (.pointer (some ⟨gz, 0, none⟩)) ∧ InC w' gz ((Nat.gcd x.natAbs y.natAbs : Nat)) ∧ Kp1 W gz w' := by
 obtain ⟨a, b, bz⟩ := hz.two; refine (biGcd gz gx gy 86 _ _ [] x y W bz hx.out.ia hy.out.ia lx ly hv.out _ rfl).mono ?_
 rintro e w' ⟨rfl, h1, h2⟩; exact ⟨rfl, ⟨h1⟩, ⟨h2⟩⟩
theorem biQuoC {W : World} {gz gx gy : Nat} {x y z : Int} [hz : InC W gz z] [hx : InC W gx x] [hy : InC W gy y] (lx : (words x.natAbs).length ≤ 137438953472) (ly : (words y.natAbs).length ≤ 137438953472) (h0 : y ≠ 0) :
 Calls Tryz.prog 162 #[.pointer (some ⟨gz, 0, none⟩), .pointer (some ⟨gx, 0, none⟩), .pointer (some ⟨gy, 0, none⟩)] W fun e w' => e = .returned (.pointer (some ⟨gz, 0, none⟩)) ∧ InC w' gz (x.tdiv y) ∧ Kp1 W gz w' := by
 obtain ⟨a, b, bz⟩ := hz.two; refine (biQuo gz gx gy 86 _ _ [] x y W bz hx.out.ia hy.out.ia lx ly h0).mono ?_
 rintro e w' ⟨rfl, h1, h2⟩; exact ⟨rfl, ⟨h1⟩, ⟨h2⟩⟩
theorem biSignC {W : World} {gx : Nat} {x : Int} [hx : InC W gx x] : Calls Tryz.prog 132 #[.pointer (some ⟨gx, 0, none⟩)] W fun e w' => e = .returned (.int .i64 x.sign) ∧ w' = W := bisign gx x W hx.out.ia
theorem bNumC {W : World} {gx : Nat} {r : _root_.Rat} [hx : RaC 88 W gx r] (ln : (words r.num.natAbs).length ≤ 1099511627776) : Calls Tryz.prog 135 #[.pointer (some ⟨gx, 0, none⟩)] W fun e w' => ∃ k, e = .returned (.pointer (some ⟨k, 0, none⟩)) ∧ InC w' k r.num ∧ Kp0 W w' ∧ UpW W k := by
 refine (bnum gx r W hx.out ln).mono ?_
 rintro e w' ⟨rfl, h1, h2⟩; exact ⟨_, rfl, ⟨h1⟩, ⟨h2⟩, ⟨Nat.le_refl _⟩⟩
theorem bDenC {W : World} {gx : Nat} {r : _root_.Rat} [hx : RaC 88 W gx r] (ld : (words r.den).length ≤ 1099511627776) : Calls Tryz.prog 137 #[.pointer (some ⟨gx, 0, none⟩)] W fun e w' => ∃ k, e = .returned (.pointer (some ⟨k, 0, none⟩)) ∧ InC w' k (r.den : Int) ∧ Kp0 W w' ∧ UpW W k := by
 refine (bdenom gx r W hx.out ld).mono ?_
 rintro e w' ⟨rfl, h1, h2⟩; exact ⟨_, rfl, ⟨h1⟩, ⟨h2⟩, ⟨Nat.le_refl _⟩⟩
theorem bNewC {W : World} {x : Int} (h1 : -9223372036854775808 ≤ x) (h2 : x < 9223372036854775808) : Calls Tryz.prog 116 #[.int .i64 x] W fun e w' => ∃ k, e = .returned (.pointer (some ⟨k, 0, none⟩)) ∧ InC w' k x ∧ Kp0 W w' ∧ UpW W k := by
 refine (bnewint x W h1 h2).mono ?_
 rintro e w' ⟨rfl, h1, h2⟩; exact ⟨_, rfl, ⟨h1⟩, ⟨h2⟩, ⟨Nat.le_refl _⟩⟩
theorem info160z : (Tryz.prog.info? 160).map (fun i => (i.zero, i.size, i.bytes)) = some (some (.pointer none), 1, 8) := by kernel_rfl
theorem und101z : Tryz.prog.underlying 101 = some (.slice 160) := by kernel_rfl
theorem make_z {α : Type} {E : World → Value → α → Prop} (l0 : List α) {ops : Array Oper} {rest : List Oper} {o : Oper} {a : Act} {Q : Exit → Act → World → Prop} (w : World) (hg : o.guard = none) (l c : Operand) (hop : o.op = Op.makeSlice 101 l c)
 (L : Int) (n : Nat) (hl : a.eval l = .int .i64 L) (hc : a.eval c = .int .i64 L) (hL : L = (n : Int)) (hn : n ≤ 1048576)
 (hK : ∀ w1, Fl 160 E w1 w.heap.size n l0 0 → Kp0 w w1 → wpList Tryz.prog ops Q rest (a.put o.dst (.slice (some ⟨w.heap.size, 0, none⟩) n n)) w1) :
 wpList Tryz.prog ops Q (o :: rest) a w := by
 obtain ⟨ti, hti, htz, hts, htb⟩ := info_parts info160z; refine wpList_make_full w hg l c 101 hop w.heap.size 160 ti _ 1 und101z hti htz hts .i64 .i64 L L n hl hc hL hL (by rw [htb]; omega) (by unfold maxLen; omega) (Nat.le_refl _) (fun w1 hown hgrow => ?_)
 refine hK w1 ?_ ⟨Keeps.below ⟨hgrow.os, hgrow.tape, hgrow.output, hgrow.size, fun k hk _ => hgrow.block k hk (by simp)⟩⟩
 rcases hown.2 with ⟨h0, -⟩ | ⟨k, cap, cur, he, hgk, hb, h1, h2, h3, h4⟩
 · cases h0
 · simp only [Value.slice.injEq, Option.some.injEq, Addr.mk.injEq] at he; obtain ⟨⟨rfl, -, -⟩, -, rfl⟩ := he; exact ⟨cur, hb, by rw [h3, Nat.mul_one], fun i x hi => absurd hi (Nat.not_lt_zero _)⟩
def cutI : List Int → List Int
 | [] => []
 | x :: t => if cutI t = [] ∧ x = 0 then [] else x :: cutI t
theorem cutI_zeros {l : List Int} (h : ∀ x ∈ l, x = 0) : cutI l = [] := by
 induction l with
 | nil => rfl
 | cons x t ih =>
   rw [cutI, if_pos ⟨ih (fun y hy => h y (List.mem_cons_of_mem _ hy)), h x List.mem_cons_self⟩]
theorem cutI_take : ∀ {l : List Int} {k : Nat}, (∀ i, k ≤ i → ∀ x, l[i]? = some x → x = 0) → (k = 0 ∨ ∃ x, l[k - 1]? = some x ∧ x ≠ 0) → l.take k = cutI l := by
 intro l
 induction l with
 | nil =>
   intro k _ _; rw [List.take_nil]; rfl
 | cons x t ih =>
   intro k h0 hk; rcases k with _ | k
   · rw [List.take_zero]; refine (cutI_zeros (fun y hy => ?_)).symm
     obtain ⟨i, hi⟩ := List.getElem?_of_mem hy; exact h0 i (Nat.zero_le _) y hi
   · obtain ⟨y, hy, hy0⟩ := hk.resolve_left (by omega)
     rw [Nat.add_sub_cancel] at hy; have hz : ∀ i, k ≤ i → ∀ x, t[i]? = some x → x = 0 := fun i hi z hz => h0 (i + 1) (by omega) z (by rw [List.getElem?_cons_succ]; exact hz)
     rw [List.take_succ_cons]; rcases k with _ | k
     · have e : x = y := by simpa using hy
       subst e
       have ht : cutI t = [] := cutI_zeros (fun z hz2 => by
        obtain ⟨i, hi⟩ := List.getElem?_of_mem hz2; exact hz i (Nat.zero_le _) z hi)
       rw [cutI, if_neg (fun h => hy0 h.2), ht, List.take_zero]
     · rw [List.getElem?_cons_succ] at hy; have e := ih hz (Or.inr ⟨y, hy, hy0⟩)
       have hne : cutI t ≠ [] := by
        rw [← e]; intro h; rw [List.take_eq_nil_iff] at h; rcases h with h | h
        · omega
        · rw [h] at hy; cases hy
       rw [cutI, if_neg (fun h => hne h.1), e]
theorem cutI_len (l : List Int) : (cutI l).length ≤ l.length := by
 induction l with
 | nil => exact Nat.le_refl _
 | cons x t ih =>
   rw [cutI]
   split
   · exact Nat.zero_le _
   · rw [List.length_cons, List.length_cons]; omega
theorem cutI_mem {l : List Int} {x : Int} (h : x ∈ cutI l) : x ∈ l := by
 induction l with
 | nil => cases h
 | cons y t ih =>
   rw [cutI] at h
   split at h
   · cases h
   · rcases List.mem_cons.1 h with h | h
     · exact h ▸ List.mem_cons_self
     · exact List.mem_cons_of_mem _ (ih h)
def sumI (l : List Int) : Int := l.foldl (· + ·) 0
def endsI (l : List Int) : Int × Int := if l = [] then (0, 0) else ((l.head?.getD 0).sign, (sumI l).sign)
theorem sumI_take {l : List Int} {j : Nat} {x : Int} (h : l[j]? = some x) : sumI (l.take (j + 1)) = sumI (l.take j) + x := by
 unfold sumI; rw [List.take_add_one, h, List.foldl_append]; rfl
def SzI (L : Nat) (l : List Int) : Prop := ∀ x ∈ l, (words x.natAbs).length ≤ L
theorem SzI.at {L : Nat} {l : List Int} (h : SzI L l) {j : Nat} {x : Int} (hx : l[j]? = some x) : (words x.natAbs).length ≤ L := h x (List.mem_of_getElem? hx)
theorem SzI.mono {L M : Nat} {l : List Int} (h : SzI L l) (k : L ≤ M) : SzI M l := fun x hx => Nat.le_trans (h x hx) k
theorem SzI.cut {L : Nat} {l : List Int} (h : SzI L l) : SzI L (cutI l) := fun x hx => h x (cutI_mem hx)
theorem words_lt_iff {n k : Nat} : n < 4294967296 ^ k ↔ (words n).length ≤ k := by
 constructor
 · exact words_len_le
 · intro h; exact Nat.lt_of_lt_of_le (words_lt n) (Nat.pow_le_pow_right (by decide) h)
theorem add_lenM {m n k : Nat} (hm : (words m).length ≤ k) (hn : (words n).length ≤ k) : (words (m + n)).length ≤ k + 1 := by
 rw [← words_lt_iff] at hm hn ⊢; rw [Nat.pow_succ]; omega
theorem addI_len {x y : Int} {k : Nat} (hx : (words x.natAbs).length ≤ k) (hy : (words y.natAbs).length ≤ k) : (words (x + y).natAbs).length ≤ k + 1 :=
 Nat.le_trans (len_mono (Int.natAbs_add_le x y)) (add_lenM hx hy)
theorem sumI_len {L : Nat} {l : List Int} (h : SzI L l) (j : Nat) : (words (sumI (l.take j)).natAbs).length ≤ L + j := by
 induction j with
 | zero =>
   show (words (0 : Int).natAbs).length ≤ _
   rw [show (0 : Int).natAbs = 0 from rfl, words_0]
   exact Nat.zero_le _
 | succ j ih =>
   cases hx : l[j]? with
   | none =>
     rw [List.take_add_one, hx, Option.toList_none, List.append_nil]; omega
   | some x =>
     rw [sumI_take hx]; exact addI_len (k := L + j) ih (Nat.le_trans (h.at hx) (Nat.le_add_right _ _))
theorem gaCut {w : World} {v : Value} {l : List Int} (h : Rw 160 EI w v l) (hn : l.length ≤ 4096) :
 Calls Tryz.prog 164 #[v] w fun e w' => ∃ v', e = .returned v' ∧ Rw 160 EI w v' (cutI l) ∧ v'.ownBlock = v.ownBlock ∧ w' = w := by
 obtain ⟨a, cap, rfl, hcap⟩ := h.form; have HH := hid h; obtain ⟨n, hn2⟩ : ∃ n, n = l.length := ⟨_, rfl⟩; have HL := hid hn2; rw [← hn2] at hn hcap; have es : (.slice a l.length cap : Value) = .slice a n cap := by rw [hn2]
 rw [es]; rw [← hn2] at HH; clear h hn2 es; go_enter Tryz.func164, Tryz.ntmps164; go_wp2_with fail
 go_loop [0] (fun s0 => ∃ k : Nat, s0 = .slice a k cap ∧ k ≤ n ∧ Hid (∀ i, k ≤ i → ∀ x, l[i]? = some x → x = 0)) (fun s0 => match s0 with | .slice _ k _ => k | _ => 0)
 case atStart => exact ⟨n, rfl, Nat.le_refl _, hid (fun i hi x hx => by rw [List.getElem?_eq_none (by rw [← HL.out]; exact hi)] at hx; cases hx)⟩
 case round =>
  obtain ⟨k, rfl, hk, h0⟩ := hrel
  have fin : Hid ((k = 0 ∨ ∃ x, l[k - 1]? = some x ∧ x ≠ 0) → Rw 160 EI w (.slice a k cap) (cutI l)) := hid (fun hh => by
   rw [← cutI_take h0.out hh]; exact HH.out.take (by rw [← HL.out]; exact hk))
  rcases Nat.eq_zero_or_pos k with rfl | hkp
  · go_wp2_with fail
    go_ret
    exact ⟨_, rfl, fin.out (.inl (by trivial)), by cases a <;> rfl, rfl⟩
  · obtain ⟨j, rfl⟩ : ∃ j, k = j + 1 := ⟨k - 1, by omega⟩
    have hx : l[j]? = some l[j] := List.getElem?_eq_getElem (by rw [← HL.out]; omega)
    generalize l[j] = x at hx; obtain ⟨g, off, u, rfl, hg, cj, p2, rfl, hI⟩ := HH.out.at hx; haveI : Has w g := ⟨hg⟩; haveI : InC w p2 x := ⟨hI⟩; have hpI : (0 : Int) < ((j + 1 : Nat) : Int) := by omega
    have e1 : ((j + 1 : Nat) : Int) - 1 = (j : Int) := by omega
    have hjc : (j : Int) ≤ (cap : Int) := by omega
    have hj0 : (0 : Int) ≤ (j : Int) := by omega
    have HX := hid hx; clear hx hI hkp; by_cases h1 : x = 0
    · have b1 : (x.sign == 0) = true := by rw [h1]; rfl
      have H1 := hid h1; clear h1; go_wp2_with ((go_at_call 132; (with_reducible refine Calls.mono (biSignC) ?_); rintro e w' ⟨rfl, hw⟩; obtain rfl := hw.symm))
      go_round
      case rel => exact ⟨j, rfl, by omega, hid (fun i hi y hy => by
       rcases Nat.lt_or_eq_of_le hi with h | h
       · exact h0.out i h y hy
       · subst h; rw [HX.out] at hy; exact (Option.some.inj hy) ▸ H1.out)⟩
      case measure => simp
    · have b1 : (x.sign == 0) = false := beq_eq_false_iff_ne.2 (fun h => h1 (Int.sign_eq_zero_iff_zero.1 h))
      have H1 := hid h1; clear h1; go_wp2_with ((go_at_call 132; (with_reducible refine Calls.mono (biSignC) ?_); rintro e w' ⟨rfl, hw⟩; obtain rfl := hw.symm))
      go_ret
      exact ⟨_, rfl, fin.out (.inr ⟨x, HX.out, H1.out⟩), rfl, rfl⟩
theorem gaEnds {w : World} {v : Value} {l : List Int} {L : Nat} (h : Rw 160 EI w v l) (hn : l.length ≤ 4096) (hs : SzI L l) (hL : L ≤ 100000000000) :
 Calls Tryz.prog 114 #[v] w fun e w' => e = .returned (.tuple #[.int .i64 (endsI l).1, .int .i64 (endsI l).2]) ∧ Kp0 w w' := by
 obtain ⟨a, cap, rfl, hcap⟩ := h.form; obtain ⟨E1, hE1⟩ : ∃ E, E = (endsI l).1 := ⟨_, rfl⟩; obtain ⟨E2, hE2⟩ : ∃ E, E = (endsI l).2 := ⟨_, rfl⟩; rw [← hE1, ← hE2]; cases l with
 | nil =>
   have h1 := hid hE1; have h2 := hid hE2; clear hE1 hE2 h; rw [show (([] : List Int).length) = 0 from rfl]
   go_enter Tryz.func114, Tryz.ntmps114; go_wp2_with fail
   go_ret2
   rw [h1.out, h2.out]; exact ⟨rfl, ⟨Gr.out⟩⟩
 | cons x0 t =>
   have H1 := hid (show E1 = x0.sign by rw [hE1]; rfl)
   have H2 := hid (show E2 = (sumI (x0 :: t)).sign by rw [hE2]; rfl)
   have hx0 : (x0 :: t)[0]? = some x0 := rfl; clear hE1 hE2; generalize (x0 :: t) = l at *; obtain ⟨g, off, u0, rfl, hg, c0, p0, rfl, hI0⟩ := h.at hx0; haveI : Has w g := ⟨hg⟩; haveI : InC w p0 x0 := ⟨hI0⟩; have HH := hid h; obtain ⟨n, hn2⟩ : ∃ n, n = l.length := ⟨_, rfl⟩
   have hpos : 0 < n := by
    rw [hn2]; exact (List.getElem?_eq_some_iff.1 hx0).1
   have HL := hid hn2; rw [← hn2] at hn hcap; have es : (.slice (some ⟨g, off, none⟩) l.length cap : Value) = .slice (some ⟨g, off, none⟩) n cap := by rw [hn2]
   rw [es]; have SU := hid (fun j : Nat => sumI_len hs j)
   have SE := hid (fun (j : Nat) (x : Int) (hx : l[j]? = some x) => hs.at hx)
   have hnI : ((n : Int) == 0) = false := beq_eq_false_iff_ne.2 (by omega)
   have hnp : (0 : Int) < (n : Int) := by omega
   have HS := hid hL; rw [Nat.add_zero] at c0; clear h hn2 es hs hI0 hx0 hL; go_enter Tryz.func114, Tryz.ntmps114; go_wp2_with fail
   go_loopw [13] (fun s13 wx => ∃ j : Nat, s13 = .int .i64 j ∧ j ≤ n ∧ InC wx w.heap.size (sumI (l.take j)) ∧ Kp0 w wx) (fun s13 _ => n - (intOf s13).toNat)
   case atStart =>
    refine ⟨0, rfl, by omega, ?_, ⟨Gr.out⟩⟩
    show InC _ _ 0
    infer_instance
   case round =>
    obtain ⟨j, rfl, hj, is, ik⟩ := hrel; by_cases hjn : j = n
    · subst hjn; have HT : Hid (sumI (l.take j) = sumI l) := hid (by rw [HL.out, List.take_length])
      clear hj; go_wp2_with ((go_at_call 132; (with_reducible refine Calls.mono (biSignC) ?_); rintro e w' ⟨rfl, hw⟩; obtain rfl := hw.symm))
      go_ret2
      rw [H1.out, H2.out, ← HT.out]; exact ⟨rfl, ⟨Gr.out⟩⟩
    · have hlt : j < n := by omega
      have hI : (j : Int) < (n : Int) := by omega
      have h0 : (0 : Int) ≤ (j : Int) := by omega
      have hx : l[j]? = some l[j] := List.getElem?_eq_getElem (by rw [← HL.out]; omega)
      generalize l[j] = x at hx; obtain ⟨g', off', u, he, -, cj, p2, rfl, hIx⟩ := HH.out.at hx; simp only [Option.some.injEq, Addr.mk.injEq, and_true] at he; obtain ⟨rfl, rfl⟩ := he; haveI : InC w p2 x := ⟨hIx⟩; have HX := hid (sumI_take hx); have q1 := SU.out j; have q2 := SE.out j x hx; have k1 : Hid ((words (sumI (l.take j)).natAbs).length ≤ 137438953472) := hid (by have := HS.out; omega)
      have k2 : Hid ((words x.natAbs).length ≤ 137438953472) := hid (by have := HS.out; omega)
      clear hx hIx hjn hj q1 q2; go_wp2_with ((go_at_call 170; (with_reducible refine Calls.mono (biAddC k1.out k2.out) ?_); rintro e wc ⟨rfl, hadd, _⟩))
      go_round
      case rel =>
       refine ⟨j + 1, by go_num, by omega, ?_, ⟨Gr.out⟩⟩
       rw [HX.out]; exact hadd
      case measure => first | (simp [intOf]; done) | (simp [intOf]; omega)
def gcdI (l : List Int) : Nat := l.foldl (fun g x => Nat.gcd g x.natAbs) 0
def smallI (l : List Int) : List Int := if gcdI l = 0 then l else l.map (fun x => x.tdiv (gcdI l : Int))
theorem gcdI_take {l : List Int} {j : Nat} {x : Int} (h : l[j]? = some x) : gcdI (l.take (j + 1)) = Nat.gcd (gcdI (l.take j)) x.natAbs := by
 unfold gcdI; rw [List.take_add_one, h, List.foldl_append]; rfl
theorem gcd_len {a b k : Nat} (ha : (words a).length ≤ k) (hb : (words b).length ≤ k) : (words (Nat.gcd a b)).length ≤ k := by
 rcases Nat.eq_zero_or_pos a with h | h
 · subst h; rw [Nat.gcd_zero_left]; exact hb
 · exact Nat.le_trans (len_mono (Nat.le_of_dvd h (Nat.gcd_dvd_left a b))) ha
theorem gcdI_len {L : Nat} {l : List Int} (h : SzI L l) (j : Nat) : (words (gcdI (l.take j))).length ≤ L := by
 induction j with
 | zero =>
   show (words 0).length ≤ _
   rw [words_0]; exact Nat.zero_le _
 | succ j ih =>
   cases hx : l[j]? with
   | none =>
     rw [List.take_add_one, hx, Option.toList_none, List.append_nil]; exact ih
   | some x =>
     rw [gcdI_take hx]; exact gcd_len ih (h.at hx)
theorem smallI_len (l : List Int) : (smallI l).length = l.length := by
 unfold smallI
 split
 · rfl
 · rw [List.length_map]
theorem tdiv_len {x : Int} {g k : Nat} (h : (words x.natAbs).length ≤ k) : (words (x.tdiv (g : Int)).natAbs).length ≤ k := by
 rw [Int.natAbs_tdiv]; exact Nat.le_trans (len_mono (Nat.div_le_self _ _)) h
theorem SzI.small {L : Nat} {l : List Int} (h : SzI L l) : SzI L (smallI l) := by
 unfold smallI
 split
 · exact h
 · intro y hy; obtain ⟨x, hx, rfl⟩ := List.mem_map.1 hy; exact tdiv_len (h x hx)
theorem smallI_at {l : List Int} (h : gcdI l ≠ 0) {j : Nat} {x : Int} (hx : l[j]? = some x) : (smallI l)[j]? = some (x.tdiv (gcdI l : Int)) := by
 unfold smallI; rw [if_neg h, List.getElem?_map, hx]; rfl
theorem gaSmall {w : World} {v : Value} {l : List Int} {L : Nat} [hv : VrB w] (h : Rw 160 EI w v l) (hn : l.length ≤ 4096) (hs : SzI L l) (hL : L ≤ 100000000000) :
 Calls Tryz.prog 169 #[v] w fun e w' => ∃ v', e = .returned v' ∧ Rw 160 EI w' v' (smallI l) ∧ Kp0 w w' := by
 obtain ⟨a, cap, rfl, hcap⟩ := h.form; obtain ⟨n, hn2⟩ : ∃ n, n = l.length := ⟨_, rfl⟩; have HL := hid hn2; rw [← hn2] at hn hcap; have es : (.slice a l.length cap : Value) = .slice a n cap := by rw [hn2]
 rw [es] at h ⊢; have HH := hid h; have GL := hid (fun j : Nat => Nat.le_trans (gcdI_len hs j) (Nat.le_trans hL (by decide : 100000000000 ≤ 137438953472)))
 have SE := hid (fun (j : Nat) (x : Int) (hx : l[j]? = some x) => Nat.le_trans (hs.at hx) (Nat.le_trans hL (by decide : 100000000000 ≤ 137438953472)))
 have HN := hid hn; clear h hn2 es hs hL; go_enter Tryz.func169, Tryz.ntmps169; go_wp2_with fail
 go_loopw [12] (fun s12 wx => ∃ j : Nat, s12 = .int .i64 j ∧ j ≤ n ∧ InC wx w.heap.size ((gcdI (l.take j) : Nat) : Int) ∧ Kp0 w wx) (fun s12 _ => n - (intOf s12).toNat)
 case atStart =>
  refine ⟨0, rfl, by omega, ?_, ⟨Gr.out⟩⟩
  show InC _ _ 0
  infer_instance
 case round =>
  obtain ⟨j, rfl, hj, is, ik⟩ := hrel; by_cases hjn : j = n
  · subst hjn; rw [show l.take j = l by rw [HL.out, List.take_length]] at is
    have gl := GL.out j; rw [show l.take j = l by rw [HL.out, List.take_length]] at gl
    have HG := hid gl; clear hj gl; by_cases hg : gcdI l = 0
    · have b1 : (((gcdI l : Nat) : Int).sign == 0) = true := by rw [hg]; rfl
      have H0 := hid (show smallI l = l by unfold smallI; rw [if_pos hg])
      clear hg; go_wp2_with ((go_at_call 132; (with_reducible refine Calls.mono (biSignC) ?_); rintro e w' ⟨rfl, hw⟩; obtain rfl := hw.symm))
      go_ret
      refine ⟨_, rfl, ?_, ⟨Gr.out⟩⟩
      rw [H0.out]; exact HH.out.below eok_EI Gr.out
    · have hgI : ((gcdI l : Nat) : Int) ≠ 0 := by omega
      have b1 : (((gcdI l : Nat) : Int).sign == 0) = false := beq_eq_false_iff_ne.2 (fun h => hgI (Int.sign_eq_zero_iff_zero.1 h))
      have HG0 := hid hg; have HGI := hid hgI; have GB : Hid ((words ((gcdI l : Nat) : Int).natAbs).length ≤ 137438953472) := hid (by rw [Int.natAbs_natCast]; exact HG.out)
      clear hg hgI; go_wp2_with (first | (go_at_call 132; (with_reducible refine Calls.mono (biSignC) ?_); rintro e w' ⟨rfl, hw⟩; obtain rfl := hw.symm) | (at_make; refine make_z (E := EI) (smallI l) _ rfl _ _ rfl _ j rfl rfl (by first | rfl | omega | simp) (by omega) ?_; intro w1 hF hK1))
      go_loopw [32] (fun s32 wx => ∃ i : Nat, s32 = .int .i64 i ∧ i ≤ j ∧ Fl 160 EI wx wr.heap.size j (smallI l) i ∧ Kp0 wr wx) (fun s32 _ => j - (intOf s32).toNat)
      case atStart => exact ⟨0, rfl, by omega, hF, hK1⟩
      case round =>
       obtain ⟨i, rfl, hi, fl, ik2⟩ := hrel; by_cases hij : i = j
       · subst hij; have R := hid (fl.done (by rw [smallI_len, ← HL.out]; exact Nat.le_refl _) (by rw [smallI_len, ← HL.out]))
         clear hi fl; go_wp2_with fail
         go_ret
         exact ⟨_, rfl, R.out, ⟨Gr.out⟩⟩
       · have hlt : i < j := by omega
         have hI : (i : Int) < (j : Int) := by omega
         have h0 : (0 : Int) ≤ (i : Int) := by omega
         have hx : l[i]? = some l[i] := List.getElem?_eq_getElem (by rw [← HL.out]; omega)
         generalize l[i] = x at hx; obtain ⟨g, off, u, rfl, hg, cj, p2, rfl, hIx⟩ := HH.out.at hx; haveI : Has w g := ⟨hg⟩; haveI : InC w p2 x := ⟨hIx⟩; obtain ⟨⟨u2, cu⟩, fu⟩ := fl.slot hlt; haveI hgb := (⟨fl.lt⟩ : Has wr _); have FL := hid fl; have HX := hid hx; have k1 : Hid ((words x.natAbs).length ≤ 137438953472) := hid (SE.out i x hx); have HI := hid hlt; clear hx hIx hij hi fl hlt; go_wp2_with ((go_at_call 162; (with_reducible refine Calls.mono (biQuoC k1.out GB.out HGI.out) ?_); rintro e wc ⟨rfl, hq, _⟩))
         go_round
         case rel =>
          refine ⟨i + 1, by go_num, HI.out, ?_, ⟨Gr.out⟩⟩
          exact (FL.out.below eok_EI Gr.out).put eok_EI HI.out (smallI_at HG0.out HX.out) ⟨_, rfl, hq.out⟩
         case measure => first | (simp [intOf]; done) | (simp [intOf]; omega)
  · have hlt : j < n := by omega
    have hI : (j : Int) < (n : Int) := by omega
    have h0 : (0 : Int) ≤ (j : Int) := by omega
    have hx : l[j]? = some l[j] := List.getElem?_eq_getElem (by rw [← HL.out]; omega)
    generalize l[j] = x at hx; obtain ⟨g, off, u, rfl, hg, cj, p2, rfl, hIx⟩ := HH.out.at hx; haveI : Has w g := ⟨hg⟩; haveI : InC w p2 x := ⟨hIx⟩; have HX := hid (gcdI_take hx); have k1 := hid (SE.out j x hx); have k2 : Hid ((words ((gcdI (l.take j) : Nat) : Int).natAbs).length ≤ 137438953472) := hid (by rw [Int.natAbs_natCast]; exact GL.out j)
    have k3 : Hid ((words ((x.natAbs : Nat) : Int).natAbs).length ≤ 137438953472) := hid (by rw [Int.natAbs_natCast]; exact k1.out)
    have k4 : Hid ((words x.natAbs).length ≤ 1099511627776) := hid (Nat.le_trans k1.out (by decide))
    clear hx hIx hjn hj; go_wp2_with (first | (go_at_call 165; (with_reducible refine Calls.mono (biAbsC k4.out) ?_); rintro e wc ⟨rfl, _, _⟩) | (go_at_call 161; (with_reducible refine Calls.mono (biGcdC k2.out k3.out) ?_); rintro e wc ⟨rfl, hgcd, _⟩))
    go_round
    case rel =>
     refine ⟨j + 1, by go_num, by omega, ?_, ⟨Gr.out⟩⟩
     rw [HX.out]; rw [Int.natAbs_natCast, Int.natAbs_natCast] at hgcd; exact hgcd
    case measure => first | (simp [intOf]; done) | (simp [intOf]; omega)
end Go.Proofs.YthjeejnggpjnjaaGreatDoor
