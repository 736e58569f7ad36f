/- A part: CU, DA. -/
import Derived.Test.YthjeejnggpjnjaaGreatDoorZY19
import Derived.Deep.OwnRows
set_option linter.unusedSimpArgs false
set_option linter.unusedVariables false
set_option maxRecDepth 100000
set_option maxHeartbeats 16000000
set_option synthInstance.maxHeartbeats 2000000
set_option synthInstance.maxSize 100000
namespace Go.Proofs.YthjeejnggpjnjaaGreatDoor
open Go.RowKit
theorem Rn.fresh {w : World} {g n i : Nat} {f : Nat → Option (_root_.Rat × _root_.Rat)} (h : Rn w g n f) (hi : i < n) : Rn ((((w.setCell ⟨g, i * 2, none⟩ (.pointer (some ⟨w.heap.size, 0, none⟩))).setCell ⟨g, i * 2 + 1, none⟩ (.pointer (some ⟨w.heap.size + 1, 0, none⟩))).alloc (.cells #[.bool false, .slice none 0 0, .slice none 0 0] 88)).alloc (.cells #[.bool false, .slice none 0 0, .slice none 0 0] 88)) g n (updN f i (0, 0)) := by
 obtain ⟨C, h1, h2, h3⟩ := h; have hlt := lt_of_block h1; haveI : Has w g := ⟨hlt⟩; generalize hW1 : ((w.setCell ⟨g, i * 2, none⟩ (.pointer (some ⟨w.heap.size, 0, none⟩))).setCell ⟨g, i * 2 + 1, none⟩ (.pointer (some ⟨w.heap.size + 1, 0, none⟩))) = W1; have hz : W1.heap.size = w.heap.size := by rw [← hW1]; simp [go_sem]
 have hg1 : W1.heap[g]? = some (.cells ((C.setIfInBounds (i * 2) (.pointer (some ⟨w.heap.size, 0, none⟩))).setIfInBounds (i * 2 + 1) (.pointer (some ⟨w.heap.size + 1, 0, none⟩))) 82 (0, 0)) := by rw [← hW1]; exact set_of_block (set_of_block h1 _ _) _ _
 have kp1 : Keeps w.heap.size [g] w W1 := by rw [← hW1]; exact ((Keeps.refl _ _ _).set (Or.inl (List.mem_singleton.2 rfl)) _ _).set (Or.inl (List.mem_singleton.2 rfl)) _ _
 generalize hZ : Obj.cells #[.bool false, .slice none 0 0, .slice none 0 0] 88 = Z; have bl : Below W1.heap.size W1 ((W1.alloc Z).alloc Z) := ((Below.refl _ _).alloc (Nat.le_refl _) _).alloc (by simp [go_sem]) _
 have kp : Keeps w.heap.size [g] w ((W1.alloc Z).alloc Z) := (kp1.alloc (by omega) _).alloc (by simp [go_sem]; omega) _
 have r1 : Ra 88 ((W1.alloc Z).alloc Z) w.heap.size 0 := by
  rw [← hZ, ← hz]; exact (inferInstance : RaC 88 _ W1.heap.size 0).out
 have r2 : Ra 88 ((W1.alloc Z).alloc Z) (w.heap.size + 1) 0 := by
  rw [← hZ, ← hz]; exact (inferInstance : RaC 88 _ (W1.heap.size + 1) 0).out
 refine ⟨_, (bl.block g (by omega)).trans hg1, by rw [Array.size_setIfInBounds, Array.size_setIfInBounds]; exact h2, fun j hj => ?_⟩
 obtain ⟨u, v, q1, q2, q3⟩ := h3 j hj; by_cases hij : j = i
 · subst hij; refine ⟨.pointer (some ⟨w.heap.size, 0, none⟩), .pointer (some ⟨w.heap.size + 1, 0, none⟩), ?_, ?_, fun y hy => ?_⟩
   · rw [Array.getElem?_setIfInBounds, if_neg (by omega), Array.getElem?_setIfInBounds, if_pos rfl, if_pos (by omega)]
   · rw [Array.getElem?_setIfInBounds, if_pos rfl, if_pos (by rw [Array.size_setIfInBounds]; omega)]
   · unfold updN at hy; rw [if_pos rfl] at hy; obtain rfl := Option.some.inj hy; exact ⟨_, _, rfl, rfl, r1, r2⟩
 · refine ⟨u, v, ?_, ?_, fun y hy => ?_⟩
   · rw [Array.getElem?_setIfInBounds, if_neg (by omega), Array.getElem?_setIfInBounds, if_neg (by omega)]; exact q1
   · rw [Array.getElem?_setIfInBounds, if_neg (by omega), Array.getElem?_setIfInBounds, if_neg (by omega)]; exact q2
   · unfold updN at hy; rw [if_neg hij] at hy; obtain ⟨c, d, r1, r2, r3, r4⟩ := q3 y hy; exact ⟨c, d, r1, r2, r3.keepO h1 kp (by decide) (by decide), r4.keepO h1 kp (by decide) (by decide)⟩
instance smC_0 : SmC 0 1 := ⟨small_len (by decide), small_len (by decide)⟩
theorem Rn.fin {w : World} {g n k : Nat} {A : List (_root_.Rat × _root_.Rat)} {F S : _root_.Rat × _root_.Rat} {f : Nat → Option (_root_.Rat × _root_.Rat)} (h : Rn w g n (updN f k (roundN A F S k))) (hf : ∀ i, i < k → f i = some (roundN A F S i)) : Rn w g n (fun i => if i < k + 1 then some (roundN A F S i) else none) := by
 refine h.weak (fun i x _ hx => ?_)
 by_cases h1 : i < k + 1
 · rw [if_pos h1] at hx; unfold updN; by_cases h2 : i = k
   · rw [if_pos h2, ← h2]; exact hx
   · rw [if_neg h2, hf i (by omega)]
     exact hx
 · rw [if_neg h1] at hx; cases hx
theorem fk_upd {A : List (_root_.Rat × _root_.Rat)} {F S v : _root_.Rat × _root_.Rat} {k : Nat} : ∀ i, i < k → updN (fun i => if i < k then some (roundN A F S i) else none) k v i = some (roundN A F S i) := by
 intro i hi; unfold updN; rw [if_neg (by omega)]
 exact if_pos hi
theorem fk_at {A : List (_root_.Rat × _root_.Rat)} {F S : _root_.Rat × _root_.Rat} {k : Nat} : ∀ i, i < k → (fun i => if i < k then some (roundN A F S i) else none) i = some (roundN A F S i) := by
 intro i hi; exact if_pos hi
theorem fk_upd2 {A : List (_root_.Rat × _root_.Rat)} {F S v v' : _root_.Rat × _root_.Rat} {k : Nat} : ∀ i, i < k → updN (updN (fun i => if i < k then some (roundN A F S i) else none) k v) k v' i = some (roundN A F S i) := by
 intro i hi; show (if i = k then some v' else updN _ k v i) = _
 rw [if_neg (by omega)]
 exact fk_upd i hi
theorem updN_self (f : Nat → Option (_root_.Rat × _root_.Rat)) (k : Nat) (v : _root_.Rat × _root_.Rat) : updN f k v k = some v := by unfold updN; rw [if_pos rfl]
theorem firstN_sm {A : List (_root_.Rat × _root_.Rat)} {X Y : _root_.Rat} {k : Nat} (h : ∀ x ∈ A, SmC x.1 81 ∧ SmC x.2 81) [SmC X 81] [SmC Y 81] : SmC (firstN A (X, Y) k).1 2000 ∧ SmC (firstN A (X, Y) k).2 2000 := by
 unfold firstN
 split
 · rename_i hk; obtain ⟨h1, h2⟩ := h (A.getD k (0, 0)) (by rw [List.getD_eq_getElem?_getD, List.getElem?_eq_getElem hk]; exact List.getElem_mem hk)
   exact ⟨⟨(inferInstance : SmC (0 + ((A.getD k (0, 0)).1 * X - (A.getD k (0, 0)).2 * Y)) _).out.mono (by decide)⟩, ⟨(inferInstance : SmC (0 + ((A.getD k (0, 0)).1 * Y + (A.getD k (0, 0)).2 * X)) _).out.mono (by decide)⟩⟩
 · exact ⟨⟨smC_0.out.mono (by decide)⟩, ⟨smC_0.out.mono (by decide)⟩⟩
theorem getN_some {A : List (_root_.Rat × _root_.Rat)} {k : Nat} (h : k < A.length) : A[k]? = some (A.getD k (0, 0)) := by
 rw [List.getD_eq_getElem?_getD, List.getElem?_eq_getElem h]; rfl
theorem Fl.other {α : Type} {T : Nat} {E : World → Value → α → Prop} (e : EOk T E) {w : World} {g n j : Nat} {l : List α} (h : Fl T E w g n l j) {q i : Nat} {v : Value} {D : Array Value} (hq : w.heap[q]? = some (.cells D T (0, 0))) (hne : g ≠ q) : Fl T E (w.setCell ⟨q, i, none⟩ v) g n l j := by
 obtain ⟨C, h1, h2, h3⟩ := h; refine ⟨C, (block_ne _ _ _ _ _ hne).trans h1, h2, fun i x hi hx => ?_⟩
 obtain ⟨u, q1, q2⟩ := h3 i x hi hx; exact ⟨u, q1, e.set hq q2⟩
theorem fl_pair {w : World} {g q n k p1 p2 : Nat} {l m : List _root_.Rat} {x y : _root_.Rat} (hX : Fl 80 (ER 88) w g n l k) (hY : Fl 80 (ER 88) w q n m k) (hne : g ≠ q) (hk : k < n) (hx : l[k]? = some x) (hy : m[k]? = some y) (a : Ra 88 w p1 x) (b : Ra 88 w p2 y) :
 Fl 80 (ER 88) ((w.setCell ⟨g, k, none⟩ (.pointer (some ⟨p1, 0, none⟩))).setCell ⟨q, k, none⟩ (.pointer (some ⟨p2, 0, none⟩))) g n l (k + 1) ∧ Fl 80 (ER 88) ((w.setCell ⟨g, k, none⟩ (.pointer (some ⟨p1, 0, none⟩))).setCell ⟨q, k, none⟩ (.pointer (some ⟨p2, 0, none⟩))) q n m (k + 1) := by
 have e : EOk 80 (ER 88) := eok_ER (by decide) (by decide)
 obtain ⟨C, c1, -, -⟩ := id hX; have X1 := hX.put e hk hx ⟨p1, rfl, a⟩; have Y1 := hY.other e (i := k) (v := .pointer (some ⟨p1, 0, none⟩)) c1 (Ne.symm hne); have b1 : ER 88 (w.setCell ⟨g, k, none⟩ (.pointer (some ⟨p1, 0, none⟩))) (.pointer (some ⟨p2, 0, none⟩)) y := e.set c1 ⟨p2, rfl, b⟩; obtain ⟨D, d1, -, -⟩ := id Y1; exact ⟨X1.other e d1 hne, Y1.put e hk hy b1⟩
theorem fl_made2 {wo : World} {n : Nat} {l m : List _root_.Rat} : Fl 80 (ER 88) (((wo.alloc (.cells (madeCells #[.pointer none] n) 80)).alloc (.cells (madeCells #[.pointer none] n) 80)).drew) wo.heap.size n l 0 ∧ Fl 80 (ER 88) (((wo.alloc (.cells (madeCells #[.pointer none] n) 80)).alloc (.cells (madeCells #[.pointer none] n) 80)).drew) (wo.heap.size + 1) n m 0 := by
 generalize hZ : Obj.cells (madeCells #[.pointer none] n) 80 = Z; have b1 : (wo.alloc Z).heap[wo.heap.size]? = some Z := block_at wo Z wo.heap.size; have bl : Below (wo.alloc Z).heap.size (wo.alloc Z) ((wo.alloc Z).alloc Z).drew := Below.drew ((Below.refl _ _).alloc (Nat.le_refl _) _); have b2 := (bl.block wo.heap.size (by simp [go_sem])).trans b1
 have b3 : ((wo.alloc Z).alloc Z).drew.heap[wo.heap.size + 1]? = some Z := block_at (wo.alloc Z) Z (wo.heap.size + 1); rw [← hZ] at b2 b3 ⊢; exact ⟨⟨_, b2, by rw [size_madeCells], fun i x hi => absurd hi (Nat.not_lt_zero _)⟩, ⟨_, b3, by rw [size_madeCells], fun i x hi => absurd hi (Nat.not_lt_zero _)⟩⟩
theorem fl_pairB {w W : World} {g q n k p1 p2 : Nat} {l m : List _root_.Rat} {x y : _root_.Rat} {o : Obj} (hX : Fl 80 (ER 88) w g n l k) (hY : Fl 80 (ER 88) w q n m k) (hne : g ≠ q) (hk : k < n) (hx : l[k]? = some x) (hy : m[k]? = some y) (a : Ra 88 w p1 x) (b : Ra 88 w p2 y)
 (hW : W = (((w.setCell ⟨g, k, none⟩ (.pointer (some ⟨p1, 0, none⟩))).setCell ⟨q, k, none⟩ (.pointer (some ⟨p2, 0, none⟩))).alloc o).drew ∨ W = (((w.setCell ⟨q, k, none⟩ (.pointer (some ⟨p2, 0, none⟩))).setCell ⟨g, k, none⟩ (.pointer (some ⟨p1, 0, none⟩))).alloc o).drew) :
 Fl 80 (ER 88) W g n l (k + 1) ∧ Fl 80 (ER 88) W q n m (k + 1) := by
 have e : EOk 80 (ER 88) := eok_ER (by decide) (by decide)
 have bl : ∀ v : World, Below v.heap.size v (v.alloc o).drew := fun v => Below.drew ((Below.refl _ _).alloc (Nat.le_refl _) _)
 rcases hW with rfl | rfl
 · obtain ⟨h1, h2⟩ := fl_pair hX hY hne hk hx hy a b; exact ⟨h1.below e (bl _), h2.below e (bl _)⟩
 · obtain ⟨h1, h2⟩ := fl_pair hY hX (Ne.symm hne) hk hy hx b a; exact ⟨h2.below e (bl _), h1.below e (bl _)⟩
theorem gaAlong {w : World} {g off cap : Nat} {l : List (Nat × Nat)} {f1 f2 s1 s2 : Nat} {X Y U V : _root_.Rat} [hc : ClC w g off l] [hf1 : RaC 88 w f1 X] [hf2 : RaC 88 w f2 Y] [hs1 : RaC 88 w s1 U] [hs2 : RaC 88 w s2 V] [hv : VrB w] (hl : okB l) (hn : l.length ≤ 17) (hfe : ∀ c ∈ l, fexp c.1 ≠ 2047 ∧ fexp c.2 ≠ 2047) (hF : DyN 92 140 (X, Y)) (hS : DyN 92 140 (U, V)) (hlD : ∀ c ∈ l, DyN 92 140 (frat c.1, frat c.2)) :
 Calls Tryz.prog 64 #[.slice (some ⟨g, off, none⟩) l.length cap, .agg #[.pointer (some ⟨f1, 0, none⟩), .pointer (some ⟨f2, 0, none⟩)], .agg #[.pointer (some ⟨s1, 0, none⟩), .pointer (some ⟨s2, 0, none⟩)]] w fun e w' => ∃ u u', e = .returned (.tuple #[u, u']) ∧ Rw 160 EI w' u (wholeX ((alongN (X, Y) (U, V) l).map Prod.fst) ((alongN (X, Y) (U, V) l).map Prod.snd)) ∧ Rw 160 EI w' u' (wholeY ((alongN (X, Y) (U, V) l).map Prod.fst) ((alongN (X, Y) (U, V) l).map Prod.snd)) ∧ Kp0 w w' := by
 have CB := hid (fun (j : Nat) (c : Nat × Nat) (h : l[j]? = some c) => And.intro (hl c (List.mem_of_getElem? h)) (hfe c (List.mem_of_getElem? h)))
 have HG := hid hc.out; haveI := has_cl hc; haveI sX : SmC X 81 := ⟨Nat.le_trans hF.1.num (by decide), Nat.le_trans hF.1.den (by decide)⟩
 haveI sY : SmC Y 81 := ⟨Nat.le_trans hF.2.num (by decide), Nat.le_trans hF.2.den (by decide)⟩
 haveI sU : SmC U 81 := ⟨Nat.le_trans hS.1.num (by decide), Nat.le_trans hS.1.den (by decide)⟩
 haveI sV : SmC V 81 := ⟨Nat.le_trans hS.2.num (by decide), Nat.le_trans hS.2.den (by decide)⟩
 obtain ⟨n, hn2⟩ : ∃ n, n = l.length := ⟨_, rfl⟩; have SA := hid (fun j : Nat => alongN_sm hF hS (l := l.drop j) (by rw [List.length_drop]; omega) (fun c hc' => hlD c (List.mem_of_mem_drop hc')))
 have SF := hid (fun (m k : Nat) => firstN_sm (X := X) (Y := Y) (k := k) (SA.out (m + 1)))
 have LA := hid (fun j : Nat => show (alongN (X, Y) (U, V) (l.drop j)).length = n - j by rw [alongN_len, List.length_drop, hn2])
 have AD := hid (fun (j : Nat) (c : Nat × Nat) (h : l[j]? = some c) => alongN_drop (F := (X, Y)) (S := (U, V)) h)
 have AN := hid (show alongN (X, Y) (U, V) (l.drop n) = [] by rw [hn2, List.drop_length]; rfl)
 rw [← hn2] at hn ⊢; have HL := hid hn2; have HN := hid hn; clear hn2 hl hfe hlD hF hS hc; go_enter Tryz.func64, Tryz.ntmps64; go_wp2_with fail
 go_loopw [8, 9] (fun s8 s9 wx => ∃ (m : Nat) (aA : Option Addr) (cA nA : Nat) (A : List (_root_.Rat × _root_.Rat)), s9 = .int .i64 ((m : Int) - 1) ∧ s8 = .slice aA nA cA ∧ m ≤ n ∧ Hid (A = alongN (X, Y) (U, V) (l.drop m)) ∧ Hid (nA = A.length) ∧ Hid (nA = 0 ∨ ∃ gA, aA = some ⟨gA, 0, none⟩ ∧ Rn wx gA nA (fun i => A[i]?)) ∧ Kp0 ((w.alloc (.cells #[.pointer (some ⟨f1, 0, none⟩), .pointer (some ⟨f2, 0, none⟩)] 82)).alloc (.cells #[.pointer (some ⟨s1, 0, none⟩), .pointer (some ⟨s2, 0, none⟩)] 82)) wx) (fun _ s9 _ => (intOf s9 + 1).toNat)
 case atStart =>
  exact ⟨n, none, 0, 0, [], by go_num, rfl, Nat.le_refl _, hid AN.out.symm, hid rfl, hid (.inl rfl), ⟨Gr.out⟩⟩
 case round =>
  obtain ⟨m, aA, cA, nA, A, rfl, rfl, hm, HA, HNA, HR, ik⟩ := hrel; generalize hwo : wr = wo at *; clear hwo; rcases m with _ | m
  · skip
    have hneg : ¬ (0 : Int) ≤ ((0 : Nat) : Int) - 1 := by omega
    have hA17 : nA ≤ 17 := by have := LA.out 0; rw [← HA.out, ← HNA.out] at this; have := HN.out; omega
    have hmk := fun W : World => run_make_row' (P := Tryz.prog) 137 80 (.pointer none) 8 und137 info80 rfl .i64 .i64 nA (by omega) (by omega) W
    rw [List.drop_zero] at HA; clear hm; go_upto_region 17 with fail
    go_cut [12, 13] from 86 (fun s12 s13 wx => ∃ gx gy, s12 = .slice (some ⟨gx, 0, none⟩) nA nA ∧ s13 = .slice (some ⟨gy, 0, none⟩) nA nA ∧ gx ≠ gy ∧ wo.heap.size ≤ gx ∧ wo.heap.size ≤ gy ∧ Fl 80 (ER 88) wx gx nA (A.map Prod.fst) 0 ∧ Fl 80 (ER 88) wx gy nA (A.map Prod.snd) 0 ∧ Kp0 wo wx)
    case first =>
     go_region
     all_goals (go_wp2_with fail)
     all_goals go_meet
     all_goals first
      | exact ⟨_, _, rfl, rfl, by omega, Nat.le_refl _, Nat.le_succ _, (fl_made2 (l := A.map Prod.fst) (m := A.map Prod.snd)).1, (fl_made2 (l := A.map Prod.fst) (m := A.map Prod.snd)).2, ⟨Gr.out⟩⟩
      | exact ⟨_, _, rfl, rfl, by omega, Nat.le_succ _, Nat.le_refl _, (fl_made2 (l := A.map Prod.snd) (m := A.map Prod.fst)).2, (fl_made2 (l := A.map Prod.snd) (m := A.map Prod.fst)).1, ⟨Gr.out⟩⟩
    case rest =>
     obtain ⟨gx, gy, rfl, rfl, hne, hgx, hgy, hX0, hY0, ik0⟩ := hcut; clear hmk; generalize hwq : wc = wq at *; clear hwq; haveI : Has wq gx := ⟨hX0.lt⟩; haveI : Has wq gy := ⟨hY0.lt⟩; haveI ux : Up wo.heap.size gx := ⟨hgx⟩; haveI uy : Up wo.heap.size gy := ⟨hgy⟩; haveI ux2 : Up w.heap.size gx := ⟨Nat.le_trans (Gr.out (v := w) (W := wo)).size hgx⟩; haveI uy2 : Up w.heap.size gy := ⟨Nat.le_trans (Gr.out (v := w) (W := wo)).size hgy⟩; have HNE := hid hne; haveI : NeN gx gy := ⟨hne⟩; haveI : NeN gy gx := ⟨Ne.symm hne⟩; clear hne hgx hgy; go_wp2_with fail
     go_loopw [94] (fun s94 wx => ∃ k : Nat, s94 = .int .i64 k ∧ k ≤ nA ∧ Fl 80 (ER 88) wx gx nA (A.map Prod.fst) k ∧ Fl 80 (ER 88) wx gy nA (A.map Prod.snd) k ∧ Kp0 wo wx) (fun s94 _ => nA - (intOf s94).toNat)
     case atStart => exact ⟨0, rfl, Nat.zero_le _, hX0, hY0, ik0⟩
     case round =>
      obtain ⟨k, rfl, hk, hX, hY, ik2⟩ := hrel; by_cases hkn : k = nA
      · subst hkn; have HXX := hid (hX.done (by rw [List.length_map, HNA.out]; exact Nat.le_refl _) (by rw [List.length_map]; exact HNA.out))
        have HYY := hid (hY.done (by rw [List.length_map, HNA.out]; exact Nat.le_refl _) (by rw [List.length_map]; exact HNA.out))
        have LX := hid (show (A.map Prod.fst).length ≤ 64 by rw [List.length_map, ← HNA.out]; omega)
        have LY := hid (show (A.map Prod.snd).length ≤ 64 by rw [List.length_map, ← HNA.out]; omega)
        have S0 := SA.out 0; rw [List.drop_zero, ← HA.out] at S0; have SX := hid (show SzR 81 (A.map Prod.fst) from fun x hx => by obtain ⟨y, hy, rfl⟩ := List.mem_map.1 hx; exact (S0 y hy).1)
        have SY := hid (show SzR 81 (A.map Prod.snd) from fun x hx => by obtain ⟨y, hy, rfl⟩ := List.mem_map.1 hx; exact (S0 y hy).2)
        clear hk hX hY S0 hA17; go_wp2_with (go_at_call 112; (with_reducible refine Calls.mono (gaWhole2 (hv := ⟨VrC.out⟩) HXX.out HYY.out LX.out LY.out SX.out SY.out (by decide)) ?_); rintro e wa ⟨u, u', rfl, hu, hu', _⟩; have HU := hid hu; have HU' := hid hu'; clear hu hu')
        go_ret2
        rw [← HA.out]; exact ⟨_, _, rfl, HU.out, HU'.out, ⟨Gr.out⟩⟩
      · have hlt : k < nA := by omega
        have hkI : (k : Int) < (nA : Int) := by omega
        have hk0 : (0 : Int) ≤ (k : Int) := by omega
        obtain ⟨gA, rfl, HRA⟩ : ∃ gA, aA = some ⟨gA, 0, none⟩ ∧ Rn wo gA nA (fun i => A[i]?) := HR.out.resolve_left (by omega)
        obtain ⟨a3, b3, c3, c4, r3, r4⟩ := HRA.at hlt (getN_some (A := A) (k := k) (by rw [← HNA.out]; exact hlt))
        haveI : Has wo gA := ⟨HRA.lt⟩; haveI : RaC 88 wo a3 (A.getD k (0, 0)).1 := ⟨r3⟩; haveI : RaC 88 wo b3 (A.getD k (0, 0)).2 := ⟨r4⟩; obtain ⟨⟨ux', cx⟩, fx⟩ := hX.slot hlt; obtain ⟨⟨uy', cy⟩, fy⟩ := hY.slot hlt; haveI : Has wr gx := ⟨hX.lt⟩; haveI : Has wr gy := ⟨hY.lt⟩; have HX := hid hX; have HY := hid hY; have HLT := hid hlt; have HG0 := hid (show (A.map Prod.fst)[k]? = some (A.getD k (0, 0)).1 by rw [List.getElem?_map, getN_some (A := A) (k := k) (by rw [← HNA.out]; exact hlt)]; rfl)
        have HG1 := hid (show (A.map Prod.snd)[k]? = some (A.getD k (0, 0)).2 by rw [List.getElem?_map, getN_some (A := A) (k := k) (by rw [← HNA.out]; exact hlt)]; rfl)
        have RA3 := hid (show Ra 88 wr a3 (A.getD k (0, 0)).1 from r3.below ik2.out)
        have RB3 := hid (show Ra 88 wr b3 (A.getD k (0, 0)).2 from r4.below ik2.out)
        clear hX hY hk hkn r3 r4; go_upto_region 21 with fail
        go_region
        all_goals (go_wp2_with fail)
        all_goals go_round
        all_goals first
         | (refine ⟨k + 1, by go_num, HLT.out, ?_, ?_, ⟨Gr.out⟩⟩
            · exact (fl_pairB (p1 := a3) (p2 := b3) HX.out HY.out HNE.out HLT.out HG0.out HG1.out RA3.out RB3.out (by first | exact .inl rfl | exact .inr rfl)).1
            · exact (fl_pairB (p1 := a3) (p2 := b3) HX.out HY.out HNE.out HLT.out HG0.out HG1.out RA3.out RB3.out (by first | exact .inl rfl | exact .inr rfl)).2)
         | (simp [intOf]; done)
         | (simp [intOf]; omega)
  · rw [show ((m + 1 : Nat) : Int) - 1 = (m : Int) by omega]
    have hI : (m : Int) < (n : Int) := by omega
    have h0 : (0 : Int) ≤ (m : Int) := by omega
    have hA17 : nA ≤ 17 := by have := LA.out (m + 1); rw [← HA.out, ← HNA.out] at this; have := HN.out; omega
    have HM := hid hm; have hAI : (nA : Int) ≤ 17 := by omega
    clear hm; go_wp2_with (at_make; refine make_n _ rfl _ _ rfl _ (nA + 1) rfl rfl (by first | rfl | omega | simp) (by omega) ?_; intro w1 hF1 hK1)
    generalize hgN : wo.heap.size = gN at *; haveI uN : Up w.heap.size gN := ⟨by rw [← hgN]; exact (Gr.out (v := w) (W := wo)).size⟩
    haveI uN2 : Up wo.heap.size gN := ⟨by rw [hgN]; exact Nat.le_refl _⟩
    haveI uN3 := (⟨Nat.le_trans ik.out.size uN2.out⟩ : Up ((w.alloc (.cells #[.pointer (some ⟨f1, 0, none⟩), .pointer (some ⟨f2, 0, none⟩)] 82)).alloc (.cells #[.pointer (some ⟨s1, 0, none⟩), .pointer (some ⟨s2, 0, none⟩)] 82)).heap.size gN); have HgN := hid hgN; clear hgN; go_loopw [29] (fun s29 wx => ∃ k : Nat, s29 = .int .i64 k ∧ k ≤ nA + 1 ∧ Rn wx gN (nA + 1) (fun i => if i < k then some (roundN A (X, Y) (U, V) i) else none) ∧ Kp0 wo wx) (fun s29 _ => nA + 1 - (intOf s29).toNat)
    case atStart => exact ⟨0, rfl, Nat.zero_le _, hF1.weak (fun i x _ h => by simp at h), hK1⟩
    case round =>
     obtain ⟨k, rfl, hk, HRn, ik2⟩ := hrel; by_cases hkn : k = nA + 1
     · skip
       subst hkn; have HRN := hid HRn; obtain ⟨c, hcj⟩ : ∃ c, l[m]? = some c := ⟨_, List.getElem?_eq_getElem (by rw [← HL.out]; omega)⟩
       have HJ := hid hcj; have HAD := hid (AD.out m c hcj); obtain ⟨⟨cb1, cb2⟩, ce1, ce2⟩ := CB.out m c hcj; obtain ⟨a5, b5, c5, c6, r5, r6⟩ := HRn.at (Nat.succ_pos nA) (if_pos (Nat.succ_pos nA)); haveI : Has wr gN := ⟨HRn.lt⟩; haveI : ClC w g off l := ⟨HG.out⟩; haveI : RaC 88 wr a5 (roundN A (X, Y) (U, V) 0).1 := ⟨r5⟩; haveI : RaC 88 wr b5 (roundN A (X, Y) (U, V) 0).2 := ⟨r6⟩; obtain ⟨sf1, sf2⟩ := SF.out m 0; rw [← HA.out] at sf1 sf2; haveI : SmC (roundN A (X, Y) (U, V) 0).1 2000 := sf1; haveI : SmC (roundN A (X, Y) (U, V) 0).2 2000 := sf2; obtain ⟨⟨v1, v2, e1, e2⟩, fr⟩ := HRn.slot (Nat.succ_pos nA); have fr0 := fr 0; have fr1 := fr 1; have c5' : wr.cell? ⟨gN, 0, none⟩ = _ := c5; have c6' : wr.cell? ⟨gN, 1, none⟩ = _ := c6; have d5 := hid c5'; have d6 := hid c6'; have np : (0 : Int) < ((nA + 1 : Nat) : Int) := by omega
       have np2 : (0 : Int) < (nA : Int) + 1 := by omega
       clear hcj HRn hk c5 c6 r5 r6 e1 e2 fr; go_upto_region 15 with fail
       refine wp_region_late (S := (fun W => W.cell? ⟨gN, 0, none⟩ = some (.pointer (some ⟨a5, 0, none⟩)) ∧ W.cell? ⟨gN, 1, none⟩ = some (.pointer (some ⟨b5, 0, none⟩)) ∧ W.cell? ⟨g, off + m, none⟩ = some (.complex .f64 c.1 c.2))) 11 (by kernel_rfl) ?_ (fun hHeld => ?_)
       · (refine ⟨?_, ?_, ?_⟩ <;> (first | exact Bk.cell BkC.out rfl | exact Cl.cell ClC.out HJ.out | (simp [go_sem]; done) | (simp [go_sem, d5.out]; done) | (simp [go_sem, d6.out]; done)))
       refine wpAnyL_q 0 rfl ?_
       try simp only [Act.put, sA, sZ, sS]
       refine wpAnyL_q 1 rfl ?_
       try simp only [Act.put, sA, sZ, sS]
       refine wpAnyL_q 2 rfl ?_
       try simp only [Act.put, sA, sZ, sS]
       refine wpAnyL_q 4 rfl ?_
       try simp only [Act.put, sA, sZ, sS]
       refine wpAnyL_q 5 rfl ?_
       try simp only [Act.put, sA, sZ, sS]
       refine wpAnyL_q 6 rfl ?_
       try simp only [Act.put, sA, sZ, sS]
       refine wpAnyL_r 3 rfl ?_
       try simp only [Act.put, sA, sZ, sS]
       refine wpAnyL_r 7 rfl ?_
       try simp only [Act.put, sA, sZ, sS]
       refine wpAnyL_ready (rs := [8]) (by kernel_rfl) (by simp) ?_
       refine AllReadyL.early rfl (fun K hK => ?_) AllReadyL.nil
       go_simp
       (go_at_call 54; (with_reducible refine Calls.mono (gaExact (hvr := ⟨VrC.out⟩) cb1 cb2 ce1 ce2) ?_); rintro e wc ⟨_, _, rfl, _, _, _⟩)
       refine hK.out _ _ ?_ (fun hHeld => ?_)
       · (refine ⟨?_, ?_, ?_⟩ <;> (first | exact Bk.cell BkC.out rfl | exact Cl.cell ClC.out HJ.out | (simp [go_sem]; done) | (simp [go_sem, d5.out]; done) | (simp [go_sem, d6.out]; done)))
       clear hK K
       try simp only [Act.put, sA, sZ, sS]
       refine wpAnyL_ready (rs := [9]) (by kernel_rfl) (by simp) ?_
       refine AllReadyL.early rfl (fun K hK => ?_) AllReadyL.nil
       go_simp
       (go_at_call 56; (with_reducible refine Calls.mono (gaAddC (by decide) (by decide) (by decide) (by decide)) ?_); rintro e wc ⟨a7, b7, rfl, hp7, hq7, _⟩)
       refine hK.out _ _ ?_ (fun hHeld => ?_)
       · (refine ⟨?_, ?_, ?_⟩ <;> (first | exact Bk.cell BkC.out rfl | exact Cl.cell ClC.out HJ.out | (simp [go_sem]; done) | (simp [go_sem, d5.out]; done) | (simp [go_sem, d6.out]; done)))
       clear hK K
       try simp only [Act.put, sA, sZ, sS]
       refine wpAnyL_q 10 rfl ?_
       try simp only [Act.put, sA, sZ, sS]
       refine wpAnyL_ready (rs := [11]) (by kernel_rfl) (by simp) ?_
       refine AllReadyL.late rfl (by kernel_rfl) (fun K hK => ?_) AllReadyL.nil
       go_simp
       refine hK.out _ _ ?_
       clear hK K
       try simp only [Act.put, sA, sZ, sS]
       refine wpAnyL_done (by kernel_rfl) ?_ _
       skip
       all_goals (go_wp2_with fail)
       all_goals go_round
       case rel =>
        refine ⟨m, some ⟨gN, 0, none⟩, nA + 1, nA + 1, nextN A (X, Y) (U, V) (frat c.1, frat c.2), by go_num, rfl, Nat.le_of_succ_le HM.out, hid (by rw [HAD.out, HA.out]), hid (by rw [nextN_len, ← HNA.out]), hid (.inr ⟨gN, rfl, ?_⟩), ⟨Gr.out⟩⟩
        have r7 : Ra 88 wc a7 (addN (roundN A (X, Y) (U, V) 0) (frat c.1, frat c.2)).1 := hp7.out; have r8 : Ra 88 wc b7 (addN (roundN A (X, Y) (U, V) 0) (frat c.1, frat c.2)).2 := hq7.out; have Q := Rn.put (w := wc) (i := 0) (HRN.out.below (Gr.out (v := wr) (W := wc))) (Nat.succ_pos nA) r7 r8
        exact Q.weak (fun i x hi hx => by
         have hiA : i < A.length + 1 := by rw [← HNA.out]; exact hi
         have hx2 := (nextN_at A (X, Y) (U, V) (frat c.1, frat c.2) hiA).symm.trans hx; unfold updN; by_cases h0 : i = 0
         · rw [if_pos h0] at hx2 ⊢; exact hx2
         · rw [if_neg h0] at hx2 ⊢; exact (if_pos hi).trans hx2)
       case measure => first | (simp [intOf]; done) | (simp [intOf]; omega)
     · have hlt : k < nA + 1 := by omega
       have hkI : (k : Int) < ((nA + 1 : Nat) : Int) := by omega
       have hkI2 : (k : Int) < (nA : Int) + 1 := by omega
       have hk0 : (0 : Int) ≤ (k : Int) := by omega
       obtain ⟨⟨v1, v2, c1, c2⟩, fr⟩ := HRn.slot hlt; have fr0 := fr (k * 2); have fr1 := fr (k * 2 + 1); clear fr; haveI := (⟨HRn.lt⟩ : Has wr gN); have HLT := hid hlt; have HK3 := hid HRn; clear hk hkn HRn; go_upto_region 9 with fail
       go_cut [] from 34 to 37 (fun wx => Rn wx gN (nA + 1) (updN (fun i => if i < k then some (roundN A (X, Y) (U, V) i) else none) k (0, 0)) ∧ Kp0 wo wx)
       case first =>
        go_wp2_with fail
        go_meet
        exact ⟨HK3.out.fresh HLT.out, ⟨Gr.out⟩⟩
       case rest =>
        obtain ⟨HR1, ka⟩ := hcut; generalize hwd : wc = wd at *; clear hwd c1 c2 fr0 fr1; by_cases hkA : k < nA
        · have hkAI : (k : Int) < (nA : Int) := by omega
          obtain ⟨gA, rfl, HRA⟩ : ∃ gA, aA = some ⟨gA, 0, none⟩ ∧ Rn wo gA nA (fun i => A[i]?) := HR.out.resolve_left (by omega)
          have HFA := hid hkA; obtain ⟨a3, b3, c3, c4, r3, r4⟩ := HRA.at hkA (getN_some (A := A) (k := k) (by rw [← HNA.out]; exact hkA))
          haveI : Has wo gA := ⟨HRA.lt⟩; haveI : RaC 88 wo a3 (A.getD k (0, 0)).1 := ⟨r3⟩; haveI : RaC 88 wo b3 (A.getD k (0, 0)).2 := ⟨r4⟩; obtain ⟨sx1, sx2⟩ := SA.out (m + 1) (A.getD k (0, 0)) (by rw [← HA.out]; exact List.mem_of_getElem? (getN_some (by rw [← HNA.out]; exact hkA)))
          obtain ⟨a5, b5, c5, c6, r5, r6⟩ := HR1.at HLT.out (updN_self _ _ _); haveI : Has wd gN := ⟨HR1.lt⟩; haveI : RaC 88 wd a5 (((0, 0) : _root_.Rat × _root_.Rat)).1 := ⟨r5⟩; haveI : RaC 88 wd b5 (((0, 0) : _root_.Rat × _root_.Rat)).2 := ⟨r6⟩; obtain ⟨-, fr⟩ := HR1.slot HLT.out; have fr0 := fr (k * 2); have fr1 := fr (k * 2 + 1); have d3 := hid c3; have d4 := hid c4; have d5 := hid c5; have d6 := hid c6; have HCU := hid HR1; have HVV := hid (show firstN A (X, Y) k = (0 + ((A.getD k (0, 0)).1 * X - (A.getD k (0, 0)).2 * Y), 0 + ((A.getD k (0, 0)).1 * Y + (A.getD k (0, 0)).2 * X)) by unfold firstN; rw [if_pos (by rw [← HNA.out]; exact hkA)]; rfl)
          clear fr r3 r4 r5 r6 HR1; go_upto_region 11 with fail
          go_cut [] from 42 to 55 (fun wx => Rn wx gN (nA + 1) (updN (updN (fun i => if i < k then some (roundN A (X, Y) (U, V) i) else none) k (0, 0)) k (firstN A (X, Y) k)) ∧ Kp0 wo wx)
          case first =>
           refine wp_region_late (S := (fun W => W.cell? ⟨gN, k * 2, none⟩ = some (.pointer (some ⟨a5, 0, none⟩)) ∧ W.cell? ⟨gN, k * 2 + 1, none⟩ = some (.pointer (some ⟨b5, 0, none⟩)) ∧ W.cell? ⟨gA, k * 2, none⟩ = some (.pointer (some ⟨a3, 0, none⟩)) ∧ W.cell? ⟨gA, k * 2 + 1, none⟩ = some (.pointer (some ⟨b3, 0, none⟩)) ∧ W.cell? ⟨w.heap.size, 0, none⟩ = some (.pointer (some ⟨f1, 0, none⟩)) ∧ W.cell? ⟨w.heap.size, 1, none⟩ = some (.pointer (some ⟨f2, 0, none⟩)))) 14 (by kernel_rfl) ?_ (fun hHeld => ?_)
           · (refine ⟨?_, ?_, ?_, ?_, ?_, ?_⟩ <;> (first | exact Bk.cell BkC.out rfl | (simp [go_sem]; done) | (simp [go_sem, d3.out]; done) | (simp [go_sem, d4.out]; done) | (simp [go_sem, d5.out]; done) | (simp [go_sem, d6.out]; done)))
           refine wpAnyL_q 0 rfl ?_
           try simp only [Act.put, sA, sZ, sS]
           refine wpAnyL_q 1 rfl ?_
           try simp only [Act.put, sA, sZ, sS]
           refine wpAnyL_q 2 rfl ?_
           try simp only [Act.put, sA, sZ, sS]
           refine wpAnyL_q 3 rfl ?_
           try simp only [Act.put, sA, sZ, sS]
           refine wpAnyL_q 4 rfl ?_
           try simp only [Act.put, sA, sZ, sS]
           refine wpAnyL_q 6 rfl ?_
           try simp only [Act.put, sA, sZ, sS]
           refine wpAnyL_q 7 rfl ?_
           try simp only [Act.put, sA, sZ, sS]
           refine wpAnyL_q 8 rfl ?_
           try simp only [Act.put, sA, sZ, sS]
           refine wpAnyL_r 5 rfl ?_
           try simp only [Act.put, sA, sZ, sS]
           refine wpAnyL_r 9 rfl ?_
           try simp only [Act.put, sA, sZ, sS]
           refine wpAnyL_r 10 rfl ?_
           try simp only [Act.put, sA, sZ, sS]
           refine wpAnyL_ready (rs := [11]) (by kernel_rfl) (by simp) ?_
           refine AllReadyL.early rfl (fun K hK => ?_) AllReadyL.nil
           go_simp
           (go_at_call 55; (with_reducible refine Calls.mono (gaMulC (by decide) (by decide) (by decide) (by decide)) ?_); rintro e wc ⟨_, _, rfl, _, _, _⟩)
           refine hK.out _ _ ?_ (fun hHeld => ?_)
           · (refine ⟨?_, ?_, ?_, ?_, ?_, ?_⟩ <;> (first | exact Bk.cell BkC.out rfl | (simp [go_sem]; done) | (simp [go_sem, d3.out]; done) | (simp [go_sem, d4.out]; done) | (simp [go_sem, d5.out]; done) | (simp [go_sem, d6.out]; done)))
           clear hK K
           try simp only [Act.put, sA, sZ, sS]
           refine wpAnyL_ready (rs := [12]) (by kernel_rfl) (by simp) ?_
           refine AllReadyL.early rfl (fun K hK => ?_) AllReadyL.nil
           go_simp
           (go_at_call 56; (with_reducible refine Calls.mono (gaAddC (by decide) (by decide) (by decide) (by decide)) ?_); rintro e wc ⟨a7, b7, rfl, hp7, hq7, _⟩)
           refine hK.out _ _ ?_ (fun hHeld => ?_)
           · (refine ⟨?_, ?_, ?_, ?_, ?_, ?_⟩ <;> (first | exact Bk.cell BkC.out rfl | (simp [go_sem]; done) | (simp [go_sem, d3.out]; done) | (simp [go_sem, d4.out]; done) | (simp [go_sem, d5.out]; done) | (simp [go_sem, d6.out]; done)))
           clear hK K
           try simp only [Act.put, sA, sZ, sS]
           refine wpAnyL_q 13 rfl ?_
           try simp only [Act.put, sA, sZ, sS]
           refine wpAnyL_ready (rs := [14]) (by kernel_rfl) (by simp) ?_
           refine AllReadyL.late rfl (by kernel_rfl) (fun K hK => ?_) AllReadyL.nil
           go_simp
           refine hK.out _ _ ?_
           clear hK K
           try simp only [Act.put, sA, sZ, sS]
           refine wpAnyL_done (by kernel_rfl) ?_ _
           skip
           all_goals (go_wp2_with fail)
           all_goals go_meet
           all_goals (refine ⟨?_, ⟨Gr.out⟩⟩; rw [HVV.out]; exact (HCU.out.below (Gr.out (v := wd))).put HLT.out hp7.out hq7.out)
          case rest =>
           obtain ⟨HR2, kc⟩ := hcut; clear ka c3 c4 c5 c6 d3 d4 d5 d6 fr0 fr1; generalize hwd2 : wc = wd2 at *; clear hwd2; by_cases k0 : 0 < k
           · obtain ⟨j, hj⟩ : ∃ j, k = j + 1 := ⟨k - 1, by omega⟩
             have hjA : j < nA := by omega
             have k0I : (0 : Int) < (k : Int) := by omega
             have ej : IntKind.i64.wrap ((k : Int) - 1) = (j : Int) := by rw [IntWalk.i64_in _ (by omega)]; omega
             have hjI : (j : Int) < (nA : Int) := by omega
             have hj0 : (0 : Int) ≤ (j : Int) := by omega
             have HJ := hid hj; clear hj k0; obtain ⟨a3, b3, c3, c4, r3, r4⟩ := HRA.at hjA (getN_some (A := A) (k := j) (by rw [← HNA.out]; exact hjA))
             haveI : Has wo gA := ⟨HRA.lt⟩; haveI : RaC 88 wo a3 (A.getD j (0, 0)).1 := ⟨r3⟩; haveI : RaC 88 wo b3 (A.getD j (0, 0)).2 := ⟨r4⟩; obtain ⟨sx1, sx2⟩ := SA.out (m + 1) (A.getD j (0, 0)) (by rw [← HA.out]; exact List.mem_of_getElem? (getN_some (by rw [← HNA.out]; exact hjA)))
             obtain ⟨a5, b5, c5, c6, r5, r6⟩ := HR2.at HLT.out (updN_self _ _ _); haveI : Has wd2 gN := ⟨HR2.lt⟩; haveI : RaC 88 wd2 a5 (firstN A (X, Y) k).1 := ⟨r5⟩; haveI : RaC 88 wd2 b5 (firstN A (X, Y) k).2 := ⟨r6⟩; obtain ⟨-, fr⟩ := HR2.slot HLT.out; have fr0 := fr (k * 2); have fr1 := fr (k * 2 + 1); have d3 := hid c3; have d4 := hid c4; have d5 := hid c5; have d6 := hid c6; have HCU := hid HR2
             have HVV := hid (show roundN A (X, Y) (U, V) k = ((firstN A (X, Y) k).1 + ((A.getD j (0, 0)).1 * U - (A.getD j (0, 0)).2 * V), (firstN A (X, Y) k).2 + ((A.getD j (0, 0)).1 * V + (A.getD j (0, 0)).2 * U)) by
              unfold roundN; rw [HJ.out, if_pos (Nat.succ_pos j), Nat.add_sub_cancel]
              rfl)
             obtain ⟨sf1, sf2⟩ := SF.out m k; rw [← HA.out] at sf1 sf2; clear fr r3 r4 r5 r6 HR2; go_upto_region 13 with fail
             refine wp_region_late (S := (fun W => W.cell? ⟨gN, k * 2, none⟩ = some (.pointer (some ⟨a5, 0, none⟩)) ∧ W.cell? ⟨gN, k * 2 + 1, none⟩ = some (.pointer (some ⟨b5, 0, none⟩)) ∧ W.cell? ⟨gA, j * 2, none⟩ = some (.pointer (some ⟨a3, 0, none⟩)) ∧ W.cell? ⟨gA, j * 2 + 1, none⟩ = some (.pointer (some ⟨b3, 0, none⟩)) ∧ W.cell? ⟨w.heap.size + 1, 0, none⟩ = some (.pointer (some ⟨s1, 0, none⟩)) ∧ W.cell? ⟨w.heap.size + 1, 1, none⟩ = some (.pointer (some ⟨s2, 0, none⟩)))) 15 (by kernel_rfl) ?_ (fun hHeld => ?_)
             · (refine ⟨?_, ?_, ?_, ?_, ?_, ?_⟩ <;> (first | exact Bk.cell BkC.out rfl | (simp [go_sem]; done) | (simp [go_sem, d3.out]; done) | (simp [go_sem, d4.out]; done) | (simp [go_sem, d5.out]; done) | (simp [go_sem, d6.out]; done)))
             refine wpAnyL_q 0 rfl ?_
             try simp only [Act.put, sA, sZ, sS]
             refine wpAnyL_q 1 rfl ?_
             try simp only [Act.put, sA, sZ, sS]
             refine wpAnyL_q 2 rfl ?_
             try simp only [Act.put, sA, sZ, sS]
             refine wpAnyL_q 3 rfl ?_
             try simp only [Act.put, sA, sZ, sS]
             refine wpAnyL_q 4 rfl ?_
             try simp only [Act.put, sA, sZ, sS]
             refine wpAnyL_q 6 rfl ?_
             try simp only [Act.put, sA, sZ, sS]
             refine wpAnyL_q 7 rfl ?_
             try simp only [Act.put, sA, sZ, sS]
             refine wpAnyL_q 8 rfl ?_
             try simp only [Act.put, sA, sZ, sS]
             refine wpAnyL_q 9 rfl ?_
             try simp only [Act.put, sA, sZ, sS]
             refine wpAnyL_r 5 rfl ?_
             try simp only [Act.put, sA, sZ, sS]
             refine wpAnyL_r 10 rfl ?_
             try simp only [Act.put, sA, sZ, sS]
             refine wpAnyL_r 11 rfl ?_
             try simp only [Act.put, sA, sZ, sS]
             refine wpAnyL_ready (rs := [12]) (by kernel_rfl) (by simp) ?_
             refine AllReadyL.early rfl (fun K hK => ?_) AllReadyL.nil
             go_simp
             (go_at_call 55; (with_reducible refine Calls.mono (gaMulC (by decide) (by decide) (by decide) (by decide)) ?_); rintro e wc ⟨_, _, rfl, _, _, _⟩)
             refine hK.out _ _ ?_ (fun hHeld => ?_)
             · (refine ⟨?_, ?_, ?_, ?_, ?_, ?_⟩ <;> (first | exact Bk.cell BkC.out rfl | (simp [go_sem]; done) | (simp [go_sem, d3.out]; done) | (simp [go_sem, d4.out]; done) | (simp [go_sem, d5.out]; done) | (simp [go_sem, d6.out]; done)))
             clear hK K
             try simp only [Act.put, sA, sZ, sS]
             refine wpAnyL_ready (rs := [13]) (by kernel_rfl) (by simp) ?_
             refine AllReadyL.early rfl (fun K hK => ?_) AllReadyL.nil
             go_simp
             (go_at_call 56; (with_reducible refine Calls.mono (gaAddC (by decide) (by decide) (by decide) (by decide)) ?_); rintro e wc ⟨a7, b7, rfl, hp7, hq7, _⟩)
             refine hK.out _ _ ?_ (fun hHeld => ?_)
             · (refine ⟨?_, ?_, ?_, ?_, ?_, ?_⟩ <;> (first | exact Bk.cell BkC.out rfl | (simp [go_sem]; done) | (simp [go_sem, d3.out]; done) | (simp [go_sem, d4.out]; done) | (simp [go_sem, d5.out]; done) | (simp [go_sem, d6.out]; done)))
             clear hK K
             try simp only [Act.put, sA, sZ, sS]
             refine wpAnyL_q 14 rfl ?_
             try simp only [Act.put, sA, sZ, sS]
             refine wpAnyL_ready (rs := [15]) (by kernel_rfl) (by simp) ?_
             refine AllReadyL.late rfl (by kernel_rfl) (fun K hK => ?_) AllReadyL.nil
             go_simp
             refine hK.out _ _ ?_
             clear hK K
             try simp only [Act.put, sA, sZ, sS]
             refine wpAnyL_done (by kernel_rfl) ?_ _
             skip
             all_goals (go_wp2_with fail)
             all_goals go_round
             all_goals first
              | (refine ⟨k + 1, by go_num, HLT.out, ?_, ⟨Gr.out⟩⟩
                 refine Rn.fin (f := updN (updN (fun i => if i < k then some (roundN A (X, Y) (U, V) i) else none) k (0, 0)) k (firstN A (X, Y) k)) ?_ (by first | exact fk_upd | exact fk_upd2)
                 rw [HVV.out]; exact (HCU.out.below (Gr.out (v := wd2))).put HLT.out hp7.out hq7.out)
              | (simp [intOf]; done)
              | (simp [intOf]; omega)
           · have k0I : ¬ (0 : Int) < (k : Int) := by omega
             have HK0 := hid (show roundN A (X, Y) (U, V) k = firstN A (X, Y) k by unfold roundN; rw [if_neg k0])
             clear k0; go_wp2_with fail
             go_round
             case rel =>
              refine ⟨k + 1, by go_num, HLT.out, ?_, ⟨Gr.out⟩⟩
              rw [← HK0.out] at HR2; exact HR2.fin fk_upd
             case measure => first | (simp [intOf]; done) | (simp [intOf]; omega)
        · have hkAI : ¬ (k : Int) < (nA : Int) := by omega
          have HFN := hid (show firstN A (X, Y) k = (0, 0) by unfold firstN; rw [if_neg (by rw [← HNA.out]; exact hkA)])
          have HR2 : Rn wd gN (nA + 1) (updN (fun i => if i < k then some (roundN A (X, Y) (U, V) i) else none) k (firstN A (X, Y) k)) := by rw [HFN.out]; exact HR1
          by_cases k0 : 0 < k
          · obtain ⟨j, hj⟩ : ∃ j, k = j + 1 := ⟨k - 1, by omega⟩
            have hjA : j < nA := by omega
            have k0I : (0 : Int) < (k : Int) := by omega
            have ej : IntKind.i64.wrap ((k : Int) - 1) = (j : Int) := by rw [IntWalk.i64_in _ (by omega)]; omega
            have hjI : (j : Int) < (nA : Int) := by omega
            have hj0 : (0 : Int) ≤ (j : Int) := by omega
            have HJ := hid hj; obtain ⟨gA, rfl, HRA⟩ : ∃ gA, aA = some ⟨gA, 0, none⟩ ∧ Rn wo gA nA (fun i => A[i]?) := HR.out.resolve_left (by omega)
            clear hj k0; obtain ⟨a3, b3, c3, c4, r3, r4⟩ := HRA.at hjA (getN_some (A := A) (k := j) (by rw [← HNA.out]; exact hjA))
            haveI : Has wo gA := ⟨HRA.lt⟩; haveI : RaC 88 wo a3 (A.getD j (0, 0)).1 := ⟨r3⟩; haveI : RaC 88 wo b3 (A.getD j (0, 0)).2 := ⟨r4⟩; obtain ⟨sx1, sx2⟩ := SA.out (m + 1) (A.getD j (0, 0)) (by rw [← HA.out]; exact List.mem_of_getElem? (getN_some (by rw [← HNA.out]; exact hjA)))
            obtain ⟨a5, b5, c5, c6, r5, r6⟩ := HR2.at HLT.out (updN_self _ _ _); haveI : Has wd gN := ⟨HR2.lt⟩; haveI : RaC 88 wd a5 (firstN A (X, Y) k).1 := ⟨r5⟩; haveI : RaC 88 wd b5 (firstN A (X, Y) k).2 := ⟨r6⟩; obtain ⟨-, fr⟩ := HR2.slot HLT.out; have fr0 := fr (k * 2); have fr1 := fr (k * 2 + 1); have d3 := hid c3; have d4 := hid c4; have d5 := hid c5; have d6 := hid c6; have HCU := hid HR2
            have HVV := hid (show roundN A (X, Y) (U, V) k = ((firstN A (X, Y) k).1 + ((A.getD j (0, 0)).1 * U - (A.getD j (0, 0)).2 * V), (firstN A (X, Y) k).2 + ((A.getD j (0, 0)).1 * V + (A.getD j (0, 0)).2 * U)) by
             unfold roundN; rw [HJ.out, if_pos (Nat.succ_pos j), Nat.add_sub_cancel]
             rfl)
            obtain ⟨sf1, sf2⟩ := SF.out m k; rw [← HA.out] at sf1 sf2; clear fr r3 r4 r5 r6 HR2; go_upto_region 13 with fail
            refine wp_region_late (S := (fun W => W.cell? ⟨gN, k * 2, none⟩ = some (.pointer (some ⟨a5, 0, none⟩)) ∧ W.cell? ⟨gN, k * 2 + 1, none⟩ = some (.pointer (some ⟨b5, 0, none⟩)) ∧ W.cell? ⟨gA, j * 2, none⟩ = some (.pointer (some ⟨a3, 0, none⟩)) ∧ W.cell? ⟨gA, j * 2 + 1, none⟩ = some (.pointer (some ⟨b3, 0, none⟩)) ∧ W.cell? ⟨w.heap.size + 1, 0, none⟩ = some (.pointer (some ⟨s1, 0, none⟩)) ∧ W.cell? ⟨w.heap.size + 1, 1, none⟩ = some (.pointer (some ⟨s2, 0, none⟩)))) 15 (by kernel_rfl) ?_ (fun hHeld => ?_)
            · (refine ⟨?_, ?_, ?_, ?_, ?_, ?_⟩ <;> (first | exact Bk.cell BkC.out rfl | (simp [go_sem]; done) | (simp [go_sem, d3.out]; done) | (simp [go_sem, d4.out]; done) | (simp [go_sem, d5.out]; done) | (simp [go_sem, d6.out]; done)))
            refine wpAnyL_q 0 rfl ?_
            try simp only [Act.put, sA, sZ, sS]
            refine wpAnyL_q 1 rfl ?_
            try simp only [Act.put, sA, sZ, sS]
            refine wpAnyL_q 2 rfl ?_
            try simp only [Act.put, sA, sZ, sS]
            refine wpAnyL_q 3 rfl ?_
            try simp only [Act.put, sA, sZ, sS]
            refine wpAnyL_q 4 rfl ?_
            try simp only [Act.put, sA, sZ, sS]
            refine wpAnyL_q 6 rfl ?_
            try simp only [Act.put, sA, sZ, sS]
            refine wpAnyL_q 7 rfl ?_
            try simp only [Act.put, sA, sZ, sS]
            refine wpAnyL_q 8 rfl ?_
            try simp only [Act.put, sA, sZ, sS]
            refine wpAnyL_q 9 rfl ?_
            try simp only [Act.put, sA, sZ, sS]
            refine wpAnyL_r 5 rfl ?_
            try simp only [Act.put, sA, sZ, sS]
            refine wpAnyL_r 10 rfl ?_
            try simp only [Act.put, sA, sZ, sS]
            refine wpAnyL_r 11 rfl ?_
            try simp only [Act.put, sA, sZ, sS]
            refine wpAnyL_ready (rs := [12]) (by kernel_rfl) (by simp) ?_
            refine AllReadyL.early rfl (fun K hK => ?_) AllReadyL.nil
            go_simp
            (go_at_call 55; (with_reducible refine Calls.mono (gaMulC (by decide) (by decide) (by decide) (by decide)) ?_); rintro e wc ⟨_, _, rfl, _, _, _⟩)
            refine hK.out _ _ ?_ (fun hHeld => ?_)
            · (refine ⟨?_, ?_, ?_, ?_, ?_, ?_⟩ <;> (first | exact Bk.cell BkC.out rfl | (simp [go_sem]; done) | (simp [go_sem, d3.out]; done) | (simp [go_sem, d4.out]; done) | (simp [go_sem, d5.out]; done) | (simp [go_sem, d6.out]; done)))
            clear hK K
            try simp only [Act.put, sA, sZ, sS]
            refine wpAnyL_ready (rs := [13]) (by kernel_rfl) (by simp) ?_
            refine AllReadyL.early rfl (fun K hK => ?_) AllReadyL.nil
            go_simp
            (go_at_call 56; (with_reducible refine Calls.mono (gaAddC (by decide) (by decide) (by decide) (by decide)) ?_); rintro e wc ⟨a7, b7, rfl, hp7, hq7, _⟩)
            refine hK.out _ _ ?_ (fun hHeld => ?_)
            · (refine ⟨?_, ?_, ?_, ?_, ?_, ?_⟩ <;> (first | exact Bk.cell BkC.out rfl | (simp [go_sem]; done) | (simp [go_sem, d3.out]; done) | (simp [go_sem, d4.out]; done) | (simp [go_sem, d5.out]; done) | (simp [go_sem, d6.out]; done)))
            clear hK K
            try simp only [Act.put, sA, sZ, sS]
            refine wpAnyL_q 14 rfl ?_
            try simp only [Act.put, sA, sZ, sS]
            refine wpAnyL_ready (rs := [15]) (by kernel_rfl) (by simp) ?_
            refine AllReadyL.late rfl (by kernel_rfl) (fun K hK => ?_) AllReadyL.nil
            go_simp
            refine hK.out _ _ ?_
            clear hK K
            try simp only [Act.put, sA, sZ, sS]
            refine wpAnyL_done (by kernel_rfl) ?_ _
            skip
            all_goals (go_wp2_with fail)
            all_goals go_round
            all_goals first
             | (refine ⟨k + 1, by go_num, HLT.out, ?_, ⟨Gr.out⟩⟩
                refine Rn.fin (f := updN ((fun i => if i < k then some (roundN A (X, Y) (U, V) i) else none)) k (firstN A (X, Y) k)) ?_ (by first | exact fk_upd | exact fk_upd2)
                rw [HVV.out]; exact (HCU.out.below (Gr.out (v := wd))).put HLT.out hp7.out hq7.out)
             | (simp [intOf]; done)
             | (simp [intOf]; omega)
          · have k0I : ¬ (0 : Int) < (k : Int) := by omega
            have HK0 := hid (show roundN A (X, Y) (U, V) k = firstN A (X, Y) k by unfold roundN; rw [if_neg k0])
            clear k0; go_wp2_with fail
            go_round
            case rel =>
             refine ⟨k + 1, by go_num, HLT.out, ?_, ⟨Gr.out⟩⟩
             rw [← HK0.out] at HR2; exact HR2.fin fk_at
            case measure => first | (simp [intOf]; done) | (simp [intOf]; omega)
instance notW41 : NotW 41 := ⟨by decide⟩
instance notW45 : NotW 45 := ⟨by decide⟩
instance notW25 : NotW 25 := ⟨by decide⟩
instance notW99 : NotW 99 := ⟨by decide⟩
instance neT_88_41 : NeT 88 41 := ⟨by decide⟩
instance neT_88_45 : NeT 88 45 := ⟨by decide⟩
instance neT_88_25 : NeT 88 25 := ⟨by decide⟩
instance neT_88_99 : NeT 88 99 := ⟨by decide⟩
theorem lwNumber {w : World} {x y : Nat} :
 Calls Tryz.prog 15 #[.agg #[.int .u64 (x : Int), .int .u64 (y : Int)]] w fun e w' => e = .returned (.complex .f64 x y) ∧ Kp0 w w' := by
 go_enter Tryz.func15, Tryz.ntmps15; go_wp2_with fail
 go_region_held3 (fun W => W.cell? ⟨w.heap.size, 0, none⟩ = some (.int .u64 (x : Int)) ∧ W.cell? ⟨w.heap.size, 1, none⟩ = some (.int .u64 (y : Int))) (refine ⟨?_, ?_⟩ <;> (first | exact Bk.cell BkC.out rfl | (simp [go_sem]; done))) (fail)
 all_goals (go_wp2_with fail)
 all_goals go_ret
 all_goals exact ⟨rfl, ⟨Gr.out⟩⟩
theorem lwRatio {w : World} {s t : ByteArray} :
 Calls Tryz.prog 52 #[.string s, .string t] w fun e w' => e = .returned (.agg #[.string s, .string t]) ∧ Kp0 w w' := by
 go_enter Tryz.func52, Tryz.ntmps52; go_wp2_with fail
 refine ret_cell rfl rfl rfl (by rfl) (by rfl) (by rfl) ?_
 exact ⟨rfl, ⟨Gr.out⟩⟩
theorem lwBox {w : World} {x y u v : Nat} :
 Calls Tryz.prog 19 #[.agg #[.int .u64 (x : Int), .int .u64 (y : Int), .int .u64 (u : Int), .int .u64 (v : Int)]] w fun e w' => e = .returned (.agg #[.complex .f64 x y, .complex .f64 u v]) ∧ Kp0 w w' := by
 go_enter Tryz.func19, Tryz.ntmps19; go_wp2_with fail
 go_region_held3 (fun W => W.cell? ⟨w.heap.size, 0, none⟩ = some (.int .u64 (x : Int)) ∧ W.cell? ⟨w.heap.size, 1, none⟩ = some (.int .u64 (y : Int)) ∧ W.cell? ⟨w.heap.size, 2, none⟩ = some (.int .u64 (u : Int)) ∧ W.cell? ⟨w.heap.size, 3, none⟩ = some (.int .u64 (v : Int))) (refine ⟨?_, ?_, ?_, ?_⟩ <;> (first | exact Bk.cell BkC.out rfl | (simp [go_sem]; done))) (first | (go_at_call 15; (with_reducible refine Calls.mono (lwNumber) ?_); rintro e wc ⟨rfl, _⟩))
 all_goals (go_wp2_with fail)
 all_goals (refine ret_cell rfl rfl rfl (by rfl) (by rfl) (by rfl) ?_; exact ⟨rfl, ⟨Gr.out⟩⟩)
end Go.Proofs.YthjeejnggpjnjaaGreatDoor
