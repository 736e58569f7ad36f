/- A part: AA, AAS, AB, AC, AE. -/
import Derived.Test.YthjeejnggpjnjaaGreatDoorZY07
set_option linter.unusedSimpArgs false
set_option linter.unusedVariables false
set_option maxRecDepth 100000
set_option maxHeartbeats 16000000
set_option synthInstance.maxHeartbeats 2000000
set_option synthInstance.maxSize 100000
namespace Go.Proofs.YthjeejnggpjnjaaGreatDoor
open Go.RowKit
section
variable {P : Program} {ops : Array Oper} {Q : Exit → Act → World → Prop} {md : Region.Mode} {S : World → Prop} {k : Nat}
def lateB (k : Nat) (listed : Array Bool) : Bool := (listed.toList.drop k).any id
theorem lateB_set {k i : Nat} (l : Array Bool) (h : i < k) (b : Bool) : lateB k (l.setIfInBounds i b) = lateB k l := by
 unfold lateB; rw [Array.toList_setIfInBounds, List.drop_set_of_lt h]
def wpAnyL (P : Program) (md : Region.Mode) (ops : Array Oper) (Q : Exit → Act → World → Prop) (S : World → Prop) (k : Nat) : Nat → Array Bool → Act → World → Prop
 | 0, listed, a, w => Region.ready md ops listed = [] ∧ Q .normal a w
 | fuel + 1, listed, a, w =>
   (Region.ready md ops listed = [] → Q .normal a w) ∧
   ∀ i ∈ Region.ready md ops listed, wpOp P ops Q i (fun a' w' => (lateB k (listed.setIfInBounds i true) = true ∨ S w') ∧ wpAnyL P md ops Q S k fuel (listed.setIfInBounds i true) a' w') a w
theorem wpAny_of_late : ∀ (fuel : Nat) (listed : Array Bool) (a : Act) (w : World), wpAnyL P md ops Q S k fuel listed a w → wpAny P md ops Q fuel listed a w
 | 0, _, _, _, h => h
 | fuel + 1, _, _, _, h => ⟨h.1, fun i hi => wpOp_mono (fun a' w' h' => wpAny_of_late fuel _ a' w' h'.2) (h.2 i hi)⟩
def blockedB (md : Region.Mode) (ops : Array Oper) (i k : Nat) : Nat → Array Bool → Bool
 | 0, _ => true
 | n + 1, listed => (Region.ready md ops listed).all fun j => j == i || (decide (j < k) && blockedB md ops i k n (listed.setIfInBounds j true))
theorem wpAnyL_first {i : Nat} {oi : Oper} {v : Value} (hik : i < k) (hi : ops[i]? = some oi) (hsel : ∀ (j : Nat) (o : Oper) cs b, ops[j]? = some o → o.op ≠ .select cs b)
 (hQ : ∀ c a w, Q (.panic c) (a.put oi.dst v) w → Q (.panic c) a w) :
 ∀ (fuel : Nat) (listed : Array Bool) (a : Act) (w : World),
   (∀ j oj, ops[j]? = some oj → j ≠ i → listed.getD j true = false → (∀ e ∈ oj.after, Region.binds md e = true → e.on ≠ i) → oi.apart ops oj = true) →
   i ∈ Region.ready md ops listed → blockedB md ops i k (fuel + 1) listed = true → lateB k listed = false → YieldsIf P ops S oi v a → S w →
   wpAnyL P md ops Q S k fuel (listed.setIfInBounds i true) (a.put oi.dst v) w → wpAnyL P md ops Q S k (fuel + 1) listed a w := by
 intro fuel
 induction fuel with
 | zero =>
   intro listed a w _ hr _ _ hy hS H; refine ⟨fun h => (by rw [h] at hr; cases hr), fun j hj => ?_⟩
   by_cases hji : j = i
   · subst hji; exact hy.wpOp hi hS ⟨.inr hS, H⟩
   · have := ready_mono hj hji; rw [H.1] at this; cases this
 | succ fuel ih =>
   intro listed a w hfree hr hbl hl hy hS H; refine ⟨fun h => (by rw [h] at hr; cases hr), fun j hj => ?_⟩
   by_cases hji : j = i
   · subst hji; exact hy.wpOp hi hS ⟨.inr hS, H⟩
   · have h1 := H.2 j (ready_mono hj hji)
     have hbj : j < k ∧ blockedB md ops i k (fuel + 1) (listed.setIfInBounds j true) = true := by
      have h5 := List.all_eq_true.1 hbl j hj; rw [Bool.or_eq_true, Bool.and_eq_true, beq_iff_eq, decide_eq_true_eq] at h5; exact h5.resolve_left hji
     obtain ⟨hjun, oj, hoj, hall⟩ := mem_ready.1 hj
     have hnot : ∀ e ∈ oj.after, Region.binds md e = true → e.on ≠ i := fun e he hb heq => by
      have h1 := hall e he hb; have h0 := (mem_ready.1 hr).1; rw [heq] at h1; rcases Nat.lt_or_ge i listed.size with h' | h'
      · simp [h'] at h0 h1; rw [h0] at h1; cases h1
      · simp [Array.getElem?_eq_none h'] at h1
     have h2 := wpOp_putIf hoj (hfree j oj hoj hji hjun hnot) (fun cs b => hsel i oi cs b hi) (fun cs b => hsel j oj cs b hoj) hQ hy h1
     have hfree' : ∀ k ok, ops[k]? = some ok → k ≠ i → (listed.setIfInBounds j true).getD k true = false →
      (∀ e ∈ ok.after, Region.binds md e = true → e.on ≠ i) → oi.apart ops ok = true := fun k ok hk hki hun hno => by
      refine hfree k ok hk hki ?_ hno
      by_cases hjk : j = k
      · subst hjk; exact hjun
      · rw [getD_set_ne true hjk] at hun; exact hun
     refine wpOp_mono (fun a' w' h3 => ?_) h2
     have hl2 : lateB k ((listed.setIfInBounds i true).setIfInBounds j true) = false := by rw [lateB_set _ hbj.1, lateB_set _ hik, hl]
     have hS' : S w' := h3.2.1.resolve_left (by rw [hl2]; exact Bool.false_ne_true)
     refine ⟨.inr hS', ih (listed.setIfInBounds j true) a' w' hfree' (ready_mono hr (Ne.symm hji)) hbj.2 (by rw [lateB_set _ hbj.1, hl]) h3.1 hS' ?_⟩
     rw [Array.setIfInBounds_comm _ _ hji]; exact h3.2.2
theorem wpAnyL_take {i : Nat} {oi : Oper} {v : Value} {fuel : Nat} {listed : Array Bool} {a : Act} {w : World} (hi : ops[i]? = some oi)
 (hs : Region.noSelect ops = true) (hf : Region.free md ops listed i = true) (hr : (Region.ready md ops listed).contains i = true) (hb : blockedB md ops i k (fuel + 1) listed = true) (hl : lateB k listed = false) (hik : decide (i < k) = true)
 (hQ : ∀ c a w, Q (.panic c) (a.put oi.dst v) w → Q (.panic c) a w) (hy : YieldsIf P ops S oi v a) (hS : S w)
 (h : wpAnyL P md ops Q S k fuel (listed.setIfInBounds i true) (a.put oi.dst v) w) : wpAnyL P md ops Q S k (fuel + 1) listed a w :=
 wpAnyL_first (of_decide_eq_true hik) hi (Region.noSelect_spec hs) hQ fuel listed a w (Region.free_spec hi hf) (by simpa using hr) hb hl hy hS h
theorem wpAnyL_pure1 {i : Nat} {oi : Oper} {v : Value} (hik : i < k) (hi : ops[i]? = some oi) (hsel : ∀ (j : Nat) (o : Oper) cs b, ops[j]? = some o → o.op ≠ .select cs b)
 (hQ : ∀ c a w, Q (.panic c) (a.put oi.dst v) w → Q (.panic c) a w) :
 ∀ (fuel : Nat) (listed : Array Bool) (a : Act) (w : World),
   (∀ j oj, ops[j]? = some oj → j ≠ i → listed.getD j true = false → (∀ e ∈ oj.after, Region.binds md e = true → e.on ≠ i) → oi.apart ops oj = true) →
   i ∈ Region.ready md ops listed → YieldsIf P ops (fun _ => True) oi v a → (lateB k listed = true ∨ S w) →
   wpAnyL P md ops Q S k fuel (listed.setIfInBounds i true) (a.put oi.dst v) w → wpAnyL P md ops Q S k (fuel + 1) listed a w := by
 intro fuel
 induction fuel with
 | zero =>
   intro listed a w _ hr hy hS H; refine ⟨fun h => (by rw [h] at hr; cases hr), fun j hj => ?_⟩
   by_cases hji : j = i
   · subst hji; exact hy.wpOp hi trivial ⟨by rw [lateB_set _ hik]; exact hS, H⟩
   · have := ready_mono hj hji; rw [H.1] at this; cases this
 | succ fuel ih =>
   intro listed a w hfree hr hy hS H; refine ⟨fun h => (by rw [h] at hr; cases hr), fun j hj => ?_⟩
   by_cases hji : j = i
   · subst hji; exact hy.wpOp hi trivial ⟨by rw [lateB_set _ hik]; exact hS, H⟩
   · have h1 := H.2 j (ready_mono hj hji); obtain ⟨hjun, oj, hoj, hall⟩ := mem_ready.1 hj
     have hnot : ∀ e ∈ oj.after, Region.binds md e = true → e.on ≠ i := fun e he hb heq => by
      have h1 := hall e he hb; have h0 := (mem_ready.1 hr).1; rw [heq] at h1; rcases Nat.lt_or_ge i listed.size with h' | h'
      · simp [h'] at h0 h1; rw [h0] at h1; cases h1
      · simp [Array.getElem?_eq_none h'] at h1
     have h2 := wpOp_putIf hoj (hfree j oj hoj hji hjun hnot) (fun cs b => hsel i oi cs b hi) (fun cs b => hsel j oj cs b hoj) hQ hy h1
     have hfree' : ∀ k ok, ops[k]? = some ok → k ≠ i → (listed.setIfInBounds j true).getD k true = false →
      (∀ e ∈ ok.after, Region.binds md e = true → e.on ≠ i) → oi.apart ops ok = true := fun k ok hk hki hun hno => by
      refine hfree k ok hk hki ?_ hno
      by_cases hjk : j = k
      · subst hjk; exact hjun
      · rw [getD_set_ne true hjk] at hun; exact hun
     refine wpOp_mono (fun a' w' h3 => ?_) h2
     have h5 : lateB k ((listed.setIfInBounds i true).setIfInBounds j true) = lateB k (listed.setIfInBounds j true) := by
      rw [Array.setIfInBounds_comm _ _ (Ne.symm hji), lateB_set _ hik]
     rw [h5] at h3; refine ⟨h3.2.1, ih (listed.setIfInBounds j true) a' w' hfree' (ready_mono hr (Ne.symm hji)) h3.1 h3.2.1 ?_⟩
     rw [Array.setIfInBounds_comm _ _ hji]; exact h3.2.2
theorem wpAnyL_pure {i : Nat} {oi : Oper} {v : Value} {fuel : Nat} {listed : Array Bool} {a : Act} {w : World} (hi : ops[i]? = some oi)
 (hs : Region.noSelect ops = true) (hf : Region.free md ops listed i = true) (hr : (Region.ready md ops listed).contains i = true) (hik : decide (i < k) = true)
 (hQ : ∀ c a w, Q (.panic c) (a.put oi.dst v) w → Q (.panic c) a w) (hy : YieldsIf P ops (fun _ => True) oi v a) (hS : S w)
 (h : wpAnyL P md ops Q S k fuel (listed.setIfInBounds i true) (a.put oi.dst v) w) : wpAnyL P md ops Q S k (fuel + 1) listed a w :=
 wpAnyL_pure1 (of_decide_eq_true hik) hi (Region.noSelect_spec hs) hQ fuel listed a w (Region.free_spec hi hf) (by simpa using hr) hy (.inr hS) h
theorem wpAnyL_p (i : Nat) {oi : Oper} {v : Value} {fuel : Nat} {listed : Array Bool} {a : Act} {w : World} (hi : ops[i]? = some oi) (hy : YieldsIf P ops (fun _ => True) oi v a)
 (h : wpAnyL P md ops Q S k fuel (listed.setIfInBounds i true) (a.put oi.dst v) w)
 (hs : Region.noSelect ops = true := by kernel_rfl) (hf : Region.free md ops listed i = true := by kernel_rfl) (hr : (Region.ready md ops listed).contains i = true := by kernel_rfl) (hik : decide (i < k) = true := by rfl)
 (hQ : ∀ c a w, Q (.panic c) (a.put oi.dst v) w → Q (.panic c) a w := by exact fun _ _ _ h => h) (hS : S w := by assumption) : wpAnyL P md ops Q S k (fuel + 1) listed a w :=
 wpAnyL_pure hi hs hf hr hik hQ hy hS h
theorem wpAnyL_t (i : Nat) {oi : Oper} {v : Value} {fuel : Nat} {listed : Array Bool} {a : Act} {w : World} (hi : ops[i]? = some oi) (hy : YieldsIf P ops S oi v a)
 (h : wpAnyL P md ops Q S k fuel (listed.setIfInBounds i true) (a.put oi.dst v) w)
 (hs : Region.noSelect ops = true := by kernel_rfl) (hf : Region.free md ops listed i = true := by kernel_rfl) (hr : (Region.ready md ops listed).contains i = true := by kernel_rfl) (hb : blockedB md ops i k (fuel + 1) listed = true := by kernel_rfl) (hl : lateB k listed = false := by kernel_rfl) (hik : decide (i < k) = true := by rfl)
 (hQ : ∀ c a w, Q (.panic c) (a.put oi.dst v) w → Q (.panic c) a w := by exact fun _ _ _ h => h) (hS : S w := by assumption) : wpAnyL P md ops Q S k (fuel + 1) listed a w :=
 wpAnyL_take hi hs hf hr hb hl hik hQ hy hS h
def AllReadyL (P : Program) (md : Region.Mode) (ops : Array Oper) (Q : Exit → Act → World → Prop) (S : World → Prop) (k fuel : Nat) (listed : Array Bool) (a : Act) (w : World) (rs : List Nat) : Prop :=
 ∀ i ∈ rs, wpOp P ops Q i (fun a' w' => (lateB k (listed.setIfInBounds i true) = true ∨ S w') ∧ wpAnyL P md ops Q S k fuel (listed.setIfInBounds i true) a' w') a w
theorem AllReadyL.nil {fuel : Nat} {listed : Array Bool} {a : Act} {w : World} : AllReadyL P md ops Q S k fuel listed a w [] := fun _ h => by cases h
theorem AllReadyL.early {fuel : Nat} {listed : Array Bool} {a : Act} {w : World} {i : Nat} {o : Oper} {rs : List Nat} (ho : ops[i]? = some o)
 (h : ∀ K' : Act → World → Prop, Shut (∀ a w, S w → (S w → wpAnyL P md ops Q S k fuel (listed.setIfInBounds i true) a w) → K' a w) → if Region.wanted o (yielded ops a.tmps) = true then Oper.wp P o a w K' Q else K' (a.put o.dst undef) w)
 (hs : AllReadyL P md ops Q S k fuel listed a w rs) : AllReadyL P md ops Q S k fuel listed a w (i :: rs) := fun j hj => by
 rcases List.mem_cons.1 hj with rfl | hj
 · exact wpOp_step ho (fun K' hK => h K' (fun a w hS hW => hK a w ⟨.inr hS, hW hS⟩))
 · exact hs j hj
theorem AllReadyL.late {fuel : Nat} {listed : Array Bool} {a : Act} {w : World} {i : Nat} {o : Oper} {rs : List Nat} (ho : ops[i]? = some o) (hl : lateB k (listed.setIfInBounds i true) = true)
 (h : ∀ K' : Act → World → Prop, Shut (∀ a w, wpAnyL P md ops Q S k fuel (listed.setIfInBounds i true) a w → K' a w) → if Region.wanted o (yielded ops a.tmps) = true then Oper.wp P o a w K' Q else K' (a.put o.dst undef) w)
 (hs : AllReadyL P md ops Q S k fuel listed a w rs) : AllReadyL P md ops Q S k fuel listed a w (i :: rs) := fun j hj => by
 rcases List.mem_cons.1 hj with rfl | hj
 · exact wpOp_step ho (fun K' hK => h K' (fun a w hW => hK a w ⟨.inl hl, hW⟩))
 · exact hs j hj
theorem wpAnyL_ready {rs : List Nat} {fuel : Nat} {listed : Array Bool} {a : Act} {w : World} (hr : Region.ready md ops listed = rs) (hne : rs ≠ [])
 (h : AllReadyL P md ops Q S k fuel listed a w rs) : wpAnyL P md ops Q S k (fuel + 1) listed a w := ⟨fun h0 => absurd (hr ▸ h0) hne, hr ▸ h⟩
theorem wpAnyL_done {listed : Array Bool} {a : Act} {w : World} (hr : Region.ready md ops listed = []) (h : Q .normal a w) :
 ∀ fuel, wpAnyL P md ops Q S k fuel listed a w
 | 0 => ⟨hr, h⟩
 | _ + 1 => ⟨fun _ => h, by rw [hr]; simp⟩
theorem wp_region_late {id : Nat} {a : Act} {w : World} (k : Nat) (hm : P.follows .mixedOrders = true) (hS : S w.drew)
 (h : S w.drew → wpAnyL P .any ops Q S k ops.size (Array.replicate ops.size false) a w.drew) : (Code.region id ops true).wp P Q a w :=
 wp_region_any hm (wpAny_of_late _ _ _ _ (h hS))
end
theorem sA {α : Type} (l : List α) (i : Nat) (a : α) : l.toArray.setIfInBounds i a = (l.set i a).toArray := by simp
theorem sZ {α : Type} (x a : α) (l : List α) : (x :: l).set 0 a = a :: l := rfl
theorem sS {α : Type} (x a : α) (l : List α) (n : Nat) : (x :: l).set (n + 1) a = x :: l.set n a := rfl
section
variable {P : Program} {md : Region.Mode} {ops : Array Oper} {Q : Exit → Act → World → Prop} {S : World → Prop} {k : Nat}
theorem wpAnyL_q (i : Nat) {oi : Oper} {v : Value} {fuel : Nat} {listed : Array Bool} {a : Act} {w : World} (hi : ops[i]? = some oi) (h : wpAnyL P md ops Q S k fuel (listed.setIfInBounds i true) (a.put oi.dst v) w)
 (hy : YieldsIf P ops (fun _ => True) oi v a := by exact Or.inl ⟨by rfl, by intro w hSw; (try dsimp only at hSw); go_simp; all_goals (with_reducible rfl)⟩)
 (hs : Region.noSelect ops = true := by kernel_rfl) (hf : Region.free md ops listed i = true := by kernel_rfl) (hr : (Region.ready md ops listed).contains i = true := by kernel_rfl) (hik : decide (i < k) = true := by rfl)
 (hQ : ∀ c a w, Q (.panic c) (a.put oi.dst v) w → Q (.panic c) a w := by exact fun _ _ _ h => h) (hS : S w := by assumption) : wpAnyL P md ops Q S k (fuel + 1) listed a w :=
 wpAnyL_pure hi hs hf hr hik hQ hy hS h
theorem wpAnyL_r (i : Nat) {oi : Oper} {v : Value} {fuel : Nat} {listed : Array Bool} {a : Act} {w : World} (hi : ops[i]? = some oi) (h : wpAnyL P md ops Q S k fuel (listed.setIfInBounds i true) (a.put oi.dst v) w)
 (hy : YieldsIf P ops S oi v a := by exact Or.inl ⟨by rfl, by intro w hSw; (try dsimp only at hSw); go_simp; all_goals (with_reducible rfl)⟩)
 (hs : Region.noSelect ops = true := by kernel_rfl) (hf : Region.free md ops listed i = true := by kernel_rfl) (hr : (Region.ready md ops listed).contains i = true := by kernel_rfl) (hb : blockedB md ops i k (fuel + 1) listed = true := by kernel_rfl) (hl : lateB k listed = false := by kernel_rfl) (hik : decide (i < k) = true := by rfl)
 (hQ : ∀ c a w, Q (.panic c) (a.put oi.dst v) w → Q (.panic c) a w := by exact fun _ _ _ h => h) (hS : S w := by assumption) : wpAnyL P md ops Q S k (fuel + 1) listed a w :=
 wpAnyL_take hi hs hf hr hb hl hik hQ hy hS h
end
def Ia (w : World) (g : Nat) (n : Int) : Prop := ∃ v R T, Bk w g (.bool (decide (n < 0)) :: v :: R) T ∧ Wd w v (words n.natAbs)
theorem In.ia {T : Nat} {w : World} {g : Nat} {n : Int} (h : In T w g n) : Ia w g n := by
 obtain ⟨v, h1, h2⟩ := h; exact ⟨v, [], T, h1, h2⟩
theorem Ra.ia {R : Nat} {w : World} {g : Nat} {r : _root_.Rat} (h : Ra R w g r) : Ia w g r.num := by
 obtain ⟨v, d, h1, h2, -⟩ := h; exact ⟨v, [d], R, h1, h2⟩
theorem Ia.below {w w' : World} {g : Nat} {n : Int} (h : Ia w g n) (b : Below w.heap.size w w') : Ia w' g n := by
 obtain ⟨v, R, T, h1, h2⟩ := h; exact ⟨v, R, T, h1.below b, h2.below b⟩
theorem Ia.lt {w : World} {g : Nat} {n : Int} (h : Ia w g n) : g < w.heap.size := by
 obtain ⟨v, R, T, h1, -⟩ := h; exact h1.lt
def Iz (R : List Value) (T : Nat) (w : World) (g : Nat) (n : Int) : Prop := ∃ v, Bk w g (.bool (decide (n < 0)) :: v :: R) T ∧ Wd w v (words n.natAbs)
theorem Iz.in {T : Nat} {w : World} {g : Nat} {n : Int} (h : Iz [] T w g n) : In T w g n := h
theorem Iz.ia {T : Nat} {R : List Value} {w : World} {g : Nat} {n : Int} (h : Iz R T w g n) : Ia w g n := by
 obtain ⟨v, h1, h2⟩ := h; exact ⟨v, R, T, h1, h2⟩
theorem biNeg (gz gx T : Nat) (z0 z1 : Value) (R : List Value) (n : Int) (w : World) (hz : Bk w gz (z0 :: z1 :: R) T) (hx : Ia w gx n) (ln : (words n.natAbs).length ≤ 1099511627776) (s : Int) (hs : s = -n) :
 Calls Tryz.prog 167 #[.pointer (some ⟨gz, 0, none⟩), .pointer (some ⟨gx, 0, none⟩)] w fun e w' => e = .returned (.pointer (some ⟨gz, 0, none⟩)) ∧ Iz R T w' gz s ∧ Keeps w.heap.size [gz] w w' := by
 obtain ⟨vx, Rx, Tx, bx, wx⟩ := hx; have CP := hid (fun w' (h : Below w.heap.size w w') => bcopied vx (words n.natAbs) w' (wx.below h) ln)
 have SE := hid (fun v w' (h : Below w.heap.size w w') (q : Wd w' v (words n.natAbs)) => biset gz T z0 z1 R (!decide (n < 0)) v n.natAbs w' (hz.below h) q ln)
 rw [← sg_neg] at SE; have hs2 : sg (!decide (n < 0)) n.natAbs = s := by rw [hs]; exact sg_not n
 have hs3 : n.natAbs = s.natAbs := by omega
 rw [hs2] at SE; unfold Iz; rw [← hs3]; obtain ⟨ax, cx, rfl, -, -⟩ := wx.form; have BX := hid bx; have x0 := bx.cell (i := 0) rfl; have x1 := bx.cell (i := 1) rfl; haveI : Has w gx := ⟨bx.lt⟩; clear hs hs2 hs3 bx wx hz ln; generalize decide (s < 0) = ns at *; generalize decide (n < 0) = nx at *; go_enter Tryz.func167, Tryz.ntmps167; go_wp2_with fail
 refine wp_region_late (S := (fun W => W.cell? ⟨gx, 0, none⟩ = some (.bool nx) ∧ W.cell? ⟨gx, 1, none⟩ = some (.slice ax (words n.natAbs).length cx))) 11 (by kernel_rfl) ?_ (fun hHeld => ?_)
 · (refine ⟨?_, ?_⟩ <;> (first | assumption | (simp [go_sem, *]; done)))
 refine wpAnyL_q 0 rfl ?_
 try simp only [Act.put, sA, sZ, sS]
 refine wpAnyL_q 1 rfl ?_
 try simp only [Act.put, sA, sZ, sS]
 refine wpAnyL_q 2 rfl ?_
 try simp only [Act.put, sA, sZ, sS]
 refine wpAnyL_q 3 rfl ?_
 try simp only [Act.put, sA, sZ, sS]
 refine wpAnyL_q 6 rfl ?_
 try simp only [Act.put, sA, sZ, sS]
 refine wpAnyL_q 7 rfl ?_
 try simp only [Act.put, sA, sZ, sS]
 refine wpAnyL_q 8 rfl ?_
 try simp only [Act.put, sA, sZ, sS]
 refine wpAnyL_r 4 rfl ?_
 try simp only [Act.put, sA, sZ, sS]
 refine wpAnyL_q 5 rfl ?_
 try simp only [Act.put, sA, sZ, sS]
 refine wpAnyL_r 9 rfl ?_
 try simp only [Act.put, sA, sZ, sS]
 refine wpAnyL_ready (rs := [10]) (by kernel_rfl) (by simp) ?_
 refine AllReadyL.early rfl (fun K hK => ?_) AllReadyL.nil
 go_simp
 (go_at_call 188; (with_reducible refine (CP.out _ ?_).mono ?_); (focus (first | exact Below.refl _ _ | exact Below.drew (Below.refl _ _))); rintro e w1 ⟨g1, rfl, h1, -, hq1⟩; have hb1 : Below w.heap.size w w1 := (by first | exact hq1 | exact Below.trans (Below.drew (Below.refl w.heap.size w)) hq1); have x01 := (BX.out.below hb1).cell (i := 0) rfl; have x11 := (BX.out.below hb1).cell (i := 1) rfl)
 refine hK.out _ _ ?_ (fun hHeld => ?_)
 · (refine ⟨?_, ?_⟩ <;> (first | assumption | (simp [go_sem, *]; done)))
 clear hK K
 try simp only [Act.put, sA, sZ, sS]
 refine wpAnyL_ready (rs := [11]) (by kernel_rfl) (by simp) ?_
 refine AllReadyL.late rfl (by kernel_rfl) (fun K hK => ?_) AllReadyL.nil
 go_simp
 (go_at_call 171; (with_reducible refine (SE.out _ _ hb1 (h1.wd (Nat.le_refl _))).mono ?_); rintro e w2 ⟨v2, rfl, hB2, hV2, -, hk2⟩)
 refine hK.out _ _ ?_
 clear hK K
 try simp only [Act.put, sA, sZ, sS]
 refine wpAnyL_ready (rs := [12]) (by kernel_rfl) (by simp) ?_
 refine AllReadyL.late rfl (by kernel_rfl) (fun K hK => ?_) AllReadyL.nil
 go_simp
 refine hK.out _ _ ?_
 clear hK K
 try simp only [Act.put, sA, sZ, sS]
 refine wpAnyL_done (by kernel_rfl) ?_ _
 go_wp2_with fail
 go_ret
 exact ⟨rfl, ⟨v2, hB2, hV2⟩, (Keeps.of_below hb1).trans (hk2.mono hb1.size (fun _ _ h => h))⟩
theorem biSet (gz gx T : Nat) (z0 z1 : Value) (R : List Value) (n : Int) (w : World) (hz : Bk w gz (z0 :: z1 :: R) T) (hx : Ia w gx n) (ln : (words n.natAbs).length ≤ 1099511627776) (s : Int) (hs : s = n) :
 Calls Tryz.prog 166 #[.pointer (some ⟨gz, 0, none⟩), .pointer (some ⟨gx, 0, none⟩)] w fun e w' => e = .returned (.pointer (some ⟨gz, 0, none⟩)) ∧ Iz R T w' gz s ∧ Keeps w.heap.size [gz] w w' := by
 obtain ⟨vx, Rx, Tx, bx, wx⟩ := hx; have CP := hid (fun w' (h : Below w.heap.size w w') => bcopied vx (words n.natAbs) w' (wx.below h) ln)
 have SE := hid (fun v w' (h : Below w.heap.size w w') (q : Wd w' v (words n.natAbs)) => biset gz T z0 z1 R (decide (n < 0)) v n.natAbs w' (hz.below h) q ln)
 rw [← sg_neg] at SE; have hs2 : sg (decide (n < 0)) n.natAbs = s := by rw [hs]; exact (sg_of n).symm
 have hs3 : n.natAbs = s.natAbs := by omega
 rw [hs2] at SE; unfold Iz; rw [← hs3]; obtain ⟨ax, cx, rfl, -, -⟩ := wx.form; have BX := hid bx; have x0 := bx.cell (i := 0) rfl; have x1 := bx.cell (i := 1) rfl; haveI : Has w gx := ⟨bx.lt⟩; clear hs hs2 hs3 bx wx hz ln; generalize decide (s < 0) = ns at *; generalize decide (n < 0) = nx at *; go_enter Tryz.func166, Tryz.ntmps166; go_wp2_with fail
 refine wp_region_late (S := (fun W => W.cell? ⟨gx, 0, none⟩ = some (.bool nx) ∧ W.cell? ⟨gx, 1, none⟩ = some (.slice ax (words n.natAbs).length cx))) 10 (by kernel_rfl) ?_ (fun hHeld => ?_)
 · (refine ⟨?_, ?_⟩ <;> (first | assumption | (simp [go_sem, *]; done)))
 refine wpAnyL_q 0 rfl ?_
 try simp only [Act.put, sA, sZ, sS]
 refine wpAnyL_q 1 rfl ?_
 try simp only [Act.put, sA, sZ, sS]
 refine wpAnyL_q 2 rfl ?_
 try simp only [Act.put, sA, sZ, sS]
 refine wpAnyL_q 3 rfl ?_
 try simp only [Act.put, sA, sZ, sS]
 refine wpAnyL_q 5 rfl ?_
 try simp only [Act.put, sA, sZ, sS]
 refine wpAnyL_q 6 rfl ?_
 try simp only [Act.put, sA, sZ, sS]
 refine wpAnyL_q 7 rfl ?_
 try simp only [Act.put, sA, sZ, sS]
 refine wpAnyL_r 4 rfl ?_
 try simp only [Act.put, sA, sZ, sS]
 refine wpAnyL_r 8 rfl ?_
 try simp only [Act.put, sA, sZ, sS]
 refine wpAnyL_ready (rs := [9]) (by kernel_rfl) (by simp) ?_
 refine AllReadyL.early rfl (fun K hK => ?_) AllReadyL.nil
 go_simp
 (go_at_call 188; (with_reducible refine (CP.out _ ?_).mono ?_); (focus (first | exact Below.refl _ _ | exact Below.drew (Below.refl _ _))); rintro e w1 ⟨g1, rfl, h1, -, hq1⟩; have hb1 : Below w.heap.size w w1 := (by first | exact hq1 | exact Below.trans (Below.drew (Below.refl w.heap.size w)) hq1); have x01 := (BX.out.below hb1).cell (i := 0) rfl; have x11 := (BX.out.below hb1).cell (i := 1) rfl)
 refine hK.out _ _ ?_ (fun hHeld => ?_)
 · (refine ⟨?_, ?_⟩ <;> (first | assumption | (simp [go_sem, *]; done)))
 clear hK K
 try simp only [Act.put, sA, sZ, sS]
 refine wpAnyL_ready (rs := [10]) (by kernel_rfl) (by simp) ?_
 refine AllReadyL.late rfl (by kernel_rfl) (fun K hK => ?_) AllReadyL.nil
 go_simp
 (go_at_call 171; (with_reducible refine (SE.out _ _ hb1 (h1.wd (Nat.le_refl _))).mono ?_); rintro e w2 ⟨v2, rfl, hB2, hV2, -, hk2⟩)
 refine hK.out _ _ ?_
 clear hK K
 try simp only [Act.put, sA, sZ, sS]
 refine wpAnyL_ready (rs := [11]) (by kernel_rfl) (by simp) ?_
 refine AllReadyL.late rfl (by kernel_rfl) (fun K hK => ?_) AllReadyL.nil
 go_simp
 refine hK.out _ _ ?_
 clear hK K
 try simp only [Act.put, sA, sZ, sS]
 refine wpAnyL_done (by kernel_rfl) ?_ _
 go_wp2_with fail
 go_ret
 exact ⟨rfl, ⟨v2, hB2, hV2⟩, (Keeps.of_below hb1).trans (hk2.mono hb1.size (fun _ _ h => h))⟩
theorem eiSet (gz gx T : Nat) (z0 z1 : Value) (R : List Value) (n : Int) (w : World) (hz : Bk w gz (z0 :: z1 :: R) T) (hx : Ia w gx n) (ln : (words n.natAbs).length ≤ 1099511627776) (s : Int) (hs : s = n) :
 Calls Tryz.prog 182 #[.pointer (some ⟨gz, 0, none⟩), .pointer (some ⟨gx, 0, none⟩)] w fun e w' => e = .returned (.pointer (some ⟨gz, 0, none⟩)) ∧ Iz R T w' gz s ∧ Keeps w.heap.size [gz] w w' := by
 obtain ⟨vx, Rx, Tx, bx, wx⟩ := hx; have CP := hid (fun w' (h : Below w.heap.size w w') => ecopied vx (words n.natAbs) w' (wx.below h) ln)
 have SE := hid (fun v w' (h : Below w.heap.size w w') (q : Wd w' v (words n.natAbs)) => eiset gz T z0 z1 R (decide (n < 0)) v n.natAbs w' (hz.below h) q ln)
 rw [← sg_neg] at SE; have hs2 : sg (decide (n < 0)) n.natAbs = s := by rw [hs]; exact (sg_of n).symm
 have hs3 : n.natAbs = s.natAbs := by omega
 rw [hs2] at SE; unfold Iz; rw [← hs3]; obtain ⟨ax, cx, rfl, -, -⟩ := wx.form; have BX := hid bx; have x0 := bx.cell (i := 0) rfl; have x1 := bx.cell (i := 1) rfl; haveI : Has w gx := ⟨bx.lt⟩; clear hs hs2 hs3 bx wx hz ln; generalize decide (s < 0) = ns at *; generalize decide (n < 0) = nx at *; go_enter Tryz.func182, Tryz.ntmps182; go_wp2_with fail
 refine wp_region_late (S := (fun W => W.cell? ⟨gx, 0, none⟩ = some (.bool nx) ∧ W.cell? ⟨gx, 1, none⟩ = some (.slice ax (words n.natAbs).length cx))) 10 (by kernel_rfl) ?_ (fun hHeld => ?_)
 · (refine ⟨?_, ?_⟩ <;> (first | assumption | (simp [go_sem, *]; done)))
 refine wpAnyL_q 0 rfl ?_
 try simp only [Act.put, sA, sZ, sS]
 refine wpAnyL_q 1 rfl ?_
 try simp only [Act.put, sA, sZ, sS]
 refine wpAnyL_q 2 rfl ?_
 try simp only [Act.put, sA, sZ, sS]
 refine wpAnyL_q 3 rfl ?_
 try simp only [Act.put, sA, sZ, sS]
 refine wpAnyL_q 5 rfl ?_
 try simp only [Act.put, sA, sZ, sS]
 refine wpAnyL_q 6 rfl ?_
 try simp only [Act.put, sA, sZ, sS]
 refine wpAnyL_q 7 rfl ?_
 try simp only [Act.put, sA, sZ, sS]
 refine wpAnyL_r 4 rfl ?_
 try simp only [Act.put, sA, sZ, sS]
 refine wpAnyL_r 8 rfl ?_
 try simp only [Act.put, sA, sZ, sS]
 refine wpAnyL_ready (rs := [9]) (by kernel_rfl) (by simp) ?_
 refine AllReadyL.early rfl (fun K hK => ?_) AllReadyL.nil
 go_simp
 (go_at_call 199; (with_reducible refine (CP.out _ ?_).mono ?_); (focus (first | exact Below.refl _ _ | exact Below.drew (Below.refl _ _))); rintro e w1 ⟨g1, rfl, h1, -, hq1⟩; have hb1 : Below w.heap.size w w1 := (by first | exact hq1 | exact Below.trans (Below.drew (Below.refl w.heap.size w)) hq1); have x01 := (BX.out.below hb1).cell (i := 0) rfl; have x11 := (BX.out.below hb1).cell (i := 1) rfl)
 refine hK.out _ _ ?_ (fun hHeld => ?_)
 · (refine ⟨?_, ?_⟩ <;> (first | assumption | (simp [go_sem, *]; done)))
 clear hK K
 try simp only [Act.put, sA, sZ, sS]
 refine wpAnyL_ready (rs := [10]) (by kernel_rfl) (by simp) ?_
 refine AllReadyL.late rfl (by kernel_rfl) (fun K hK => ?_) AllReadyL.nil
 go_simp
 (go_at_call 201; (with_reducible refine (SE.out _ _ hb1 (h1.wd (Nat.le_refl _))).mono ?_); rintro e w2 ⟨v2, rfl, hB2, hV2, -, hk2⟩)
 refine hK.out _ _ ?_
 clear hK K
 try simp only [Act.put, sA, sZ, sS]
 refine wpAnyL_ready (rs := [11]) (by kernel_rfl) (by simp) ?_
 refine AllReadyL.late rfl (by kernel_rfl) (fun K hK => ?_) AllReadyL.nil
 go_simp
 refine hK.out _ _ ?_
 clear hK K
 try simp only [Act.put, sA, sZ, sS]
 refine wpAnyL_done (by kernel_rfl) ?_ _
 go_wp2_with fail
 go_ret
 exact ⟨rfl, ⟨v2, hB2, hV2⟩, (Keeps.of_below hb1).trans (hk2.mono hb1.size (fun _ _ h => h))⟩
theorem biAbs (gz gx T : Nat) (z0 z1 : Value) (R : List Value) (n : Int) (w : World) (hz : Bk w gz (z0 :: z1 :: R) T) (hx : Ia w gx n) (ln : (words n.natAbs).length ≤ 1099511627776) (s : Int) (hs : s = (n.natAbs : Int)) :
 Calls Tryz.prog 165 #[.pointer (some ⟨gz, 0, none⟩), .pointer (some ⟨gx, 0, none⟩)] w fun e w' => e = .returned (.pointer (some ⟨gz, 0, none⟩)) ∧ Iz R T w' gz s ∧ Keeps w.heap.size [gz] w w' := by
 obtain ⟨vx, Rx, Tx, bx, wx⟩ := hx; have CP := hid (fun w' (h : Below w.heap.size w w') => bcopied vx (words n.natAbs) w' (wx.below h) ln)
 have SE := hid (fun v w' (h : Below w.heap.size w w') (q : Wd w' v (words n.natAbs)) => biset gz T z0 z1 R (false) v n.natAbs w' (hz.below h) q ln)
 rw [← sg_neg] at SE; have hs2 : sg (false) n.natAbs = s := by rw [hs]; exact by simp [sg]
 have hs3 : n.natAbs = s.natAbs := by omega
 rw [hs2] at SE; unfold Iz; rw [← hs3]; obtain ⟨ax, cx, rfl, -, -⟩ := wx.form; have BX := hid bx; have x0 := bx.cell (i := 0) rfl; have x1 := bx.cell (i := 1) rfl; haveI : Has w gx := ⟨bx.lt⟩; clear hs hs2 hs3 bx wx hz ln; generalize decide (s < 0) = ns at *; generalize decide (n < 0) = nx at *; go_enter Tryz.func165, Tryz.ntmps165; go_wp2_with (first | (go_at_call 188; (with_reducible refine (CP.out _ ?_).mono ?_); (focus (first | exact Below.refl _ _ | exact Below.drew (Below.refl _ _))); rintro e w1 ⟨g1, rfl, h1, -, hq1⟩; have hb1 : Below w.heap.size w w1 := (by first | exact hq1 | exact Below.trans (Below.drew (Below.refl w.heap.size w)) hq1); have x01 := (BX.out.below hb1).cell (i := 0) rfl; have x11 := (BX.out.below hb1).cell (i := 1) rfl) | (go_at_call 171; (with_reducible refine (SE.out _ _ hb1 (h1.wd (Nat.le_refl _))).mono ?_); rintro e w2 ⟨v2, rfl, hB2, hV2, -, hk2⟩))
 go_ret
 exact ⟨rfl, ⟨v2, hB2, hV2⟩, (Keeps.of_below hb1).trans (hk2.mono hb1.size (fun _ _ h => h))⟩
theorem sg_tdiv (x y : Int) : sg (!(decide (x < 0) == decide (y < 0))) (x.natAbs / y.natAbs) = x.tdiv y := by
 conv => rhs; rw [sg_of x, sg_of y]
 generalize x.natAbs = a; generalize y.natAbs = b; by_cases h1 : x < 0 <;> by_cases h2 : y < 0 <;> simp [h1, h2, sg, Int.neg_tdiv, Int.tdiv_neg]
theorem sg_mul' (x y : Int) : sg (!(decide (x < 0) == decide (y < 0))) (x.natAbs * y.natAbs) = x * y := sg_mul x y
theorem biMul (gz gx gy T : Nat) (z0 z1 : Value) (R : List Value) (x y : Int) (w : World) (hz : Bk w gz (z0 :: z1 :: R) T) (hx : Ia w gx x) (hy : Ia w gy y) (ln : (words x.natAbs).length + (words y.natAbs).length ≤ 137438953472) (s : Int) (hs : s = x * y) :
 Calls Tryz.prog 115 #[.pointer (some ⟨gz, 0, none⟩), .pointer (some ⟨gx, 0, none⟩), .pointer (some ⟨gy, 0, none⟩)] w fun e w' => e = .returned (.pointer (some ⟨gz, 0, none⟩)) ∧ Iz R T w' gz s ∧ Keeps w.heap.size [gz] w w' := by
 obtain ⟨vx, Rx, Tx, bx, wx⟩ := hx; obtain ⟨vy, Ry, Ty, by_, wy⟩ := hy; have hm : x.natAbs * y.natAbs = s.natAbs := by rw [hs, Int.natAbs_mul]
 have MU := hid (fun w' (h : Below w.heap.size w w') => bmulW vx vy x.natAbs y.natAbs w' (wx.below h) (wy.below h) ln)
 have SE := hid (fun v w' (h : Below w.heap.size w w') (q : Wd w' v (words (x.natAbs * y.natAbs))) => biset gz T z0 z1 R (!(decide (x < 0) == decide (y < 0))) v (x.natAbs * y.natAbs) w' (hz.below h) q (by have := mul_len x.natAbs y.natAbs; omega))
 rw [← sg_neg, sg_mul', ← hs] at SE; rw [hm] at SE MU; unfold Iz; obtain ⟨ax, cx, rfl, -, -⟩ := wx.form; obtain ⟨ay, cy, rfl, -, -⟩ := wy.form; have BX := hid bx; have BY := hid by_; have x0 := bx.cell (i := 0) rfl; have x1 := bx.cell (i := 1) rfl; have y0 := by_.cell (i := 0) rfl; have y1 := by_.cell (i := 1) rfl; haveI : Has w gx := ⟨bx.lt⟩; haveI : Has w gy := ⟨by_.lt⟩; clear hs hm bx by_ wx wy hz ln; generalize (words x.natAbs).length = kx at *; generalize (words y.natAbs).length = ky at *; generalize decide (s < 0) = ns at *; generalize decide (x < 0) = nx at *; generalize decide (y < 0) = ny at *; go_enter Tryz.func115, Tryz.ntmps115; go_wp2_with fail
 refine wp_region_late (S := (fun W => W.cell? ⟨gx, 0, none⟩ = some (.bool nx) ∧ W.cell? ⟨gx, 1, none⟩ = some (.slice ax kx cx) ∧ W.cell? ⟨gy, 0, none⟩ = some (.bool ny) ∧ W.cell? ⟨gy, 1, none⟩ = some (.slice ay ky cy))) 19 (by kernel_rfl) ?_ (fun hHeld => ?_)
 · (refine ⟨?_, ?_, ?_, ?_⟩ <;> (first | assumption | (simp [go_sem, *]; done)))
 refine wpAnyL_q 0 rfl ?_
 try simp only [Act.put, sA, sZ, sS]
 refine wpAnyL_q 1 rfl ?_
 try simp only [Act.put, sA, sZ, sS]
 refine wpAnyL_q 2 rfl ?_
 try simp only [Act.put, sA, sZ, sS]
 refine wpAnyL_q 3 rfl ?_
 try simp only [Act.put, sA, sZ, sS]
 refine wpAnyL_q 5 rfl ?_
 try simp only [Act.put, sA, sZ, sS]
 refine wpAnyL_q 6 rfl ?_
 try simp only [Act.put, sA, sZ, sS]
 refine wpAnyL_q 7 rfl ?_
 try simp only [Act.put, sA, sZ, sS]
 refine wpAnyL_q 10 rfl ?_
 try simp only [Act.put, sA, sZ, sS]
 refine wpAnyL_q 11 rfl ?_
 try simp only [Act.put, sA, sZ, sS]
 refine wpAnyL_q 12 rfl ?_
 try simp only [Act.put, sA, sZ, sS]
 refine wpAnyL_q 14 rfl ?_
 try simp only [Act.put, sA, sZ, sS]
 refine wpAnyL_q 15 rfl ?_
 try simp only [Act.put, sA, sZ, sS]
 refine wpAnyL_q 16 rfl ?_
 try simp only [Act.put, sA, sZ, sS]
 refine wpAnyL_r 4 rfl ?_
 try simp only [Act.put, sA, sZ, sS]
 refine wpAnyL_r 8 rfl ?_
 try simp only [Act.put, sA, sZ, sS]
 refine wpAnyL_q 9 rfl ?_
 try simp only [Act.put, sA, sZ, sS]
 refine wpAnyL_r 13 rfl ?_
 try simp only [Act.put, sA, sZ, sS]
 refine wpAnyL_r 17 rfl ?_
 try simp only [Act.put, sA, sZ, sS]
 refine wpAnyL_ready (rs := [18]) (by kernel_rfl) (by simp) ?_
 refine AllReadyL.early rfl (fun K hK => ?_) AllReadyL.nil
 go_simp
 (go_at_call 142; (with_reducible refine (MU.out _ ?_).mono ?_); (focus (first | exact Below.refl _ _ | exact Below.drew (Below.refl _ _))); rintro e w1 ⟨v1, rfl, h1, -, hq1⟩; have hb1 : Below w.heap.size w w1 := (by first | exact hq1 | exact Below.trans (Below.drew (Below.refl w.heap.size w)) hq1); have x01 := (BX.out.below hb1).cell (i := 0) rfl; have x11 := (BX.out.below hb1).cell (i := 1) rfl; have y01 := (BY.out.below hb1).cell (i := 0) rfl; have y11 := (BY.out.below hb1).cell (i := 1) rfl)
 refine hK.out _ _ ?_ (fun hHeld => ?_)
 · (refine ⟨?_, ?_, ?_, ?_⟩ <;> (first | assumption | (simp [go_sem, *]; done)))
 clear hK K
 try simp only [Act.put, sA, sZ, sS]
 refine wpAnyL_ready (rs := [19]) (by kernel_rfl) (by simp) ?_
 refine AllReadyL.late rfl (by kernel_rfl) (fun K hK => ?_) AllReadyL.nil
 go_simp
 (go_at_call 171; (with_reducible refine (SE.out _ _ hb1 h1).mono ?_); rintro e w2 ⟨v2, rfl, hB2, hV2, -, hk2⟩)
 refine hK.out _ _ ?_
 clear hK K
 try simp only [Act.put, sA, sZ, sS]
 refine wpAnyL_ready (rs := [20]) (by kernel_rfl) (by simp) ?_
 refine AllReadyL.late rfl (by kernel_rfl) (fun K hK => ?_) AllReadyL.nil
 go_simp
 refine hK.out _ _ ?_
 clear hK K
 try simp only [Act.put, sA, sZ, sS]
 refine wpAnyL_done (by kernel_rfl) ?_ _
 go_wp2_with fail
 go_ret
 exact ⟨rfl, ⟨v2, hB2, hV2⟩, (Keeps.of_below hb1).trans (hk2.mono hb1.size (fun _ _ h => h))⟩
theorem biGcd (gz gx gy T : Nat) (z0 z1 : Value) (R : List Value) (x y : Int) (w : World) (hz : Bk w gz (z0 :: z1 :: R) T) (hx : Ia w gx x) (hy : Ia w gy y) (lx : (words x.natAbs).length ≤ 137438953472) (ly : (words y.natAbs).length ≤ 137438953472) (hvr : Vr w) (s : Int) (hs : s = (Nat.gcd x.natAbs y.natAbs : Nat)) :
 Calls Tryz.prog 161 #[.pointer (some ⟨gz, 0, none⟩), .pointer none, .pointer none, .pointer (some ⟨gx, 0, none⟩), .pointer (some ⟨gy, 0, none⟩)] w fun e w' => e = .returned (.pointer (some ⟨gz, 0, none⟩)) ∧ Iz R T w' gz s ∧ Keeps w.heap.size [gz] w w' := by
 obtain ⟨vx, Rx, Tx, bx, wx⟩ := hx; obtain ⟨vy, Ry, Ty, by_, wy⟩ := hy; have hm : Nat.gcd x.natAbs y.natAbs = s.natAbs := by rw [hs]; rfl
 have lg : (words (Nat.gcd x.natAbs y.natAbs)).length ≤ 137438953472 := by
  by_cases h0 : x.natAbs = 0
  · rw [h0, Nat.gcd_zero_left]; exact ly
  · have := len_mono (Nat.gcd_le_left y.natAbs (Nat.pos_of_ne_zero h0)); omega
 have CO := hid (fun w' (h : Below w.heap.size w w') => bcommon vx vy x.natAbs y.natAbs w' (wx.below h) (wy.below h) lx ly (hvr.below h))
 have SE := hid (fun v w' (h : Below w.heap.size w w') (q : Wd w' v (words (Nat.gcd x.natAbs y.natAbs))) => biset gz T z0 z1 R false v (Nat.gcd x.natAbs y.natAbs) w' (hz.below h) q (by omega))
 rw [← sg_neg, show sg false (Nat.gcd x.natAbs y.natAbs) = s by rw [hs]; rfl] at SE
 rw [hm] at SE CO; unfold Iz; obtain ⟨ax, cx, rfl, -, -⟩ := wx.form; obtain ⟨ay, cy, rfl, -, -⟩ := wy.form; have BX := hid bx; have BY := hid by_; have x0 := bx.cell (i := 0) rfl; have x1 := bx.cell (i := 1) rfl; have y0 := by_.cell (i := 0) rfl; have y1 := by_.cell (i := 1) rfl; haveI : Has w gx := ⟨bx.lt⟩; haveI : Has w gy := ⟨by_.lt⟩; clear hs hm bx by_ wx wy hz lx ly lg; generalize (words x.natAbs).length = kx at *; generalize (words y.natAbs).length = ky at *; generalize decide (s < 0) = ns at *; go_enter Tryz.func161, Tryz.ntmps161; go_wp2_with fail
 refine wp_region_late (S := (fun W => W.cell? ⟨gx, 1, none⟩ = some (.slice ax kx cx) ∧ W.cell? ⟨gy, 1, none⟩ = some (.slice ay ky cy))) 10 (by kernel_rfl) ?_ (fun hHeld => ?_)
 · (refine ⟨?_, ?_⟩ <;> (first | assumption | (simp [go_sem, *]; done)))
 refine wpAnyL_q 0 rfl ?_
 try simp only [Act.put, sA, sZ, sS]
 refine wpAnyL_q 1 rfl ?_
 try simp only [Act.put, sA, sZ, sS]
 refine wpAnyL_q 2 rfl ?_
 try simp only [Act.put, sA, sZ, sS]
 refine wpAnyL_q 3 rfl ?_
 try simp only [Act.put, sA, sZ, sS]
 refine wpAnyL_q 5 rfl ?_
 try simp only [Act.put, sA, sZ, sS]
 refine wpAnyL_q 6 rfl ?_
 try simp only [Act.put, sA, sZ, sS]
 refine wpAnyL_q 7 rfl ?_
 try simp only [Act.put, sA, sZ, sS]
 refine wpAnyL_r 4 rfl ?_
 try simp only [Act.put, sA, sZ, sS]
 refine wpAnyL_r 8 rfl ?_
 try simp only [Act.put, sA, sZ, sS]
 refine wpAnyL_ready (rs := [9]) (by kernel_rfl) (by simp) ?_
 refine AllReadyL.early rfl (fun K hK => ?_) AllReadyL.nil
 go_simp
 (go_at_call 184; (with_reducible refine (CO.out _ ?_).mono ?_); (focus (first | exact Below.refl _ _ | exact Below.drew (Below.refl _ _))); rintro e w1 ⟨v1, rfl, h1, -, hq1⟩; have hb1 : Below w.heap.size w w1 := (by first | exact hq1 | exact Below.trans (Below.drew (Below.refl w.heap.size w)) hq1); have x11 := (BX.out.below hb1).cell (i := 1) rfl; have y11 := (BY.out.below hb1).cell (i := 1) rfl)
 refine hK.out _ _ ?_ (fun hHeld => ?_)
 · (refine ⟨?_, ?_⟩ <;> (first | assumption | (simp [go_sem, *]; done)))
 clear hK K
 try simp only [Act.put, sA, sZ, sS]
 refine wpAnyL_ready (rs := [10]) (by kernel_rfl) (by simp) ?_
 refine AllReadyL.late rfl (by kernel_rfl) (fun K hK => ?_) AllReadyL.nil
 go_simp
 (go_at_call 171; (with_reducible refine (SE.out _ _ hb1 h1).mono ?_); rintro e w2 ⟨v2, rfl, hB2, hV2, -, hk2⟩)
 refine hK.out _ _ ?_
 clear hK K
 try simp only [Act.put, sA, sZ, sS]
 refine wpAnyL_ready (rs := [11]) (by kernel_rfl) (by simp) ?_
 refine AllReadyL.late rfl (by kernel_rfl) (fun K hK => ?_) AllReadyL.nil
 go_simp
 refine hK.out _ _ ?_
 clear hK K
 try simp only [Act.put, sA, sZ, sS]
 refine wpAnyL_done (by kernel_rfl) ?_ _
 go_wp2_with fail
 go_ret
 exact ⟨rfl, ⟨v2, hB2, hV2⟩, (Keeps.of_below hb1).trans (hk2.mono hb1.size (fun _ _ h => h))⟩
theorem bisign (gx : Nat) (n : Int) (w : World) (hx : Ia w gx n) : Calls Tryz.prog 132 #[.pointer (some ⟨gx, 0, none⟩)] w fun e w' => e = .returned (.int .i64 n.sign) ∧ w' = w := by
 obtain ⟨v, R, T, bx, wx⟩ := hx; obtain ⟨a, c, rfl, -, -⟩ := wx.form; have x0 := bx.cell (i := 0) rfl; have x1 := bx.cell (i := 1) rfl; haveI : Has w gx := ⟨bx.lt⟩; clear bx wx; by_cases h0 : n = 0
 · subst h0; rw [show (words (0 : Int).natAbs).length = 0 by rw [show (0 : Int).natAbs = 0 from rfl, words_0]; rfl] at x1
   rw [show (0 : Int).sign = 0 from rfl]
   go_enter Tryz.func132, Tryz.ntmps132; go_wp2_with fail
   go_ret
   exact ⟨rfl, rfl⟩
 · have hl : (words n.natAbs).length ≠ 0 := fun e => h0 (by have := words_len0.1 e; omega)
   have e1 : (((words n.natAbs).length : Int) == 0) = false := beq_eq_false_iff_ne.2 (by omega)
   generalize (words n.natAbs).length = ln at *; clear hl; by_cases hn : n < 0
   · rw [Int.sign_eq_neg_one_of_neg hn]; rw [decide_eq_true hn] at x0; clear hn h0; go_enter Tryz.func132, Tryz.ntmps132; go_wp2_with fail
     go_ret
     exact ⟨rfl, rfl⟩
   · rw [Int.sign_eq_one_of_pos (by omega)]
     rw [decide_eq_false hn] at x0; clear hn h0; go_enter Tryz.func132, Tryz.ntmps132; go_wp2_with fail
     go_ret
     exact ⟨rfl, rfl⟩
theorem brsign (gx : Nat) (r : _root_.Rat) (w : World) (hx : Ra 88 w gx r) : Calls Tryz.prog 85 #[.pointer (some ⟨gx, 0, none⟩)] w fun e w' => e = .returned (.int .i64 r.num.sign) ∧ w' = w := by
 have IS := bisign gx r.num w hx.ia; obtain ⟨s, hs⟩ : ∃ s, s = r.num.sign := ⟨_, rfl⟩; rw [← hs] at IS ⊢; clear hs hx; go_enter Tryz.func85, Tryz.ntmps85; go_wp2_with (go_at_call 132; (with_reducible refine IS.mono ?_); rintro e w' ⟨rfl, hw⟩; obtain rfl := hw.symm)
 go_ret
 exact ⟨rfl, rfl⟩
theorem eisign (gx : Nat) (n : Int) (w : World) (hx : Ia w gx n) : Calls Tryz.prog 144 #[.pointer (some ⟨gx, 0, none⟩)] w fun e w' => e = .returned (.int .i64 n.sign) ∧ w' = w := by
 obtain ⟨v, R, T, bx, wx⟩ := hx; obtain ⟨a, c, rfl, -, -⟩ := wx.form; have x0 := bx.cell (i := 0) rfl; have x1 := bx.cell (i := 1) rfl; haveI : Has w gx := ⟨bx.lt⟩; clear bx wx; by_cases h0 : n = 0
 · subst h0; rw [show (words (0 : Int).natAbs).length = 0 by rw [show (0 : Int).natAbs = 0 from rfl, words_0]; rfl] at x1
   rw [show (0 : Int).sign = 0 from rfl]
   go_enter Tryz.func144, Tryz.ntmps144; go_wp2_with fail
   go_ret
   exact ⟨rfl, rfl⟩
 · have hl : (words n.natAbs).length ≠ 0 := fun e => h0 (by have := words_len0.1 e; omega)
   have e1 : (((words n.natAbs).length : Int) == 0) = false := beq_eq_false_iff_ne.2 (by omega)
   generalize (words n.natAbs).length = ln at *; clear hl; by_cases hn : n < 0
   · rw [Int.sign_eq_neg_one_of_neg hn]; rw [decide_eq_true hn] at x0; clear hn h0; go_enter Tryz.func144, Tryz.ntmps144; go_wp2_with fail
     go_ret
     exact ⟨rfl, rfl⟩
   · rw [Int.sign_eq_one_of_pos (by omega)]
     rw [decide_eq_false hn] at x0; clear hn h0; go_enter Tryz.func144, Tryz.ntmps144; go_wp2_with fail
     go_ret
     exact ⟨rfl, rfl⟩
theorem ersign (gx : Nat) (r : _root_.Rat) (w : World) (hx : Ra 125 w gx r) : Calls Tryz.prog 97 #[.pointer (some ⟨gx, 0, none⟩)] w fun e w' => e = .returned (.int .i64 r.num.sign) ∧ w' = w := by
 have IS := eisign gx r.num w hx.ia; obtain ⟨s, hs⟩ : ∃ s, s = r.num.sign := ⟨_, rfl⟩; rw [← hs] at IS ⊢; clear hs hx; go_enter Tryz.func97, Tryz.ntmps97; go_wp2_with (go_at_call 144; (with_reducible refine IS.mono ?_); rintro e w' ⟨rfl, hw⟩; obtain rfl := hw.symm)
 go_ret
 exact ⟨rfl, rfl⟩
theorem bisetint64 (gz T : Nat) (z0 z1 : Value) (R : List Value) (x : Int) (w : World) (hz : Bk w gz (z0 :: z1 :: R) T) (h1 : -9223372036854775808 ≤ x) (h2 : x < 9223372036854775808) :
 Calls Tryz.prog 172 #[.pointer (some ⟨gz, 0, none⟩), .int .i64 x] w fun e w' => e = .returned (.pointer (some ⟨gz, 0, none⟩)) ∧ Iz R T w' gz x ∧ Keeps w.heap.size [gz] w w' := by
 have hN : x.natAbs < 18446744073709551616 := by omega
 have FU := bfromUint x.natAbs hN w; have SE := hid (fun v w' (h : Below w.heap.size w w') (q : Wd w' v (words x.natAbs)) => biset gz T z0 z1 R (decide (x < 0)) v x.natAbs w' (hz.below h) q (by have := words_len_le (n := x.natAbs) (k := 2) (by omega); omega))
 rw [← sg_neg, ← sg_of] at SE; unfold Iz; by_cases hx : x < 0
 · obtain ⟨n, rfl⟩ : ∃ n : Nat, x = -(n : Int) := ⟨x.natAbs, by omega⟩
   rw [Int.natAbs_neg, Int.natAbs_natCast] at *; rw [decide_eq_true hx] at *; have e1 : IntKind.u64.wrap (-(n : Int)) = 18446744073709551616 - n := by rw [IntKind.wrap_u64]; omega
   have e2 : IntKind.u64.wrap (-(18446744073709551616 - (n : Int))) = n := by rw [IntKind.wrap_u64]; omega
   have e3 : IntKind.u64.wrap ((n : Int) - 18446744073709551616) = n := by rw [IntKind.wrap_u64]; omega
   have hx2 : decide (-(n : Int) < 0) = true := decide_eq_true hx; clear hz; go_enter Tryz.func172, Tryz.ntmps172; go_wp2_with (first | (go_at_call 156; (with_reducible refine FU.mono ?_); rintro e w1 ⟨v1, rfl, hv1, -, hb1⟩) | (go_at_call 171; (with_reducible refine (SE.out _ _ hb1 hv1).mono ?_); rintro e w2 ⟨v2, rfl, hB2, hV2, -, hk2⟩))
   go_ret
   exact ⟨rfl, ⟨v2, hB2, hV2⟩, (Keeps.of_below hb1).trans (hk2.mono hb1.size (fun _ _ h => h))⟩
 · obtain ⟨n, rfl⟩ : ∃ n : Nat, x = (n : Int) := ⟨x.natAbs, by omega⟩
   rw [Int.natAbs_natCast] at *; rw [decide_eq_false hx] at *; have hx2 : decide ((n : Int) < 0) = false := decide_eq_false hx; have e1 : IntKind.u64.wrap (n : Int) = n := by rw [IntKind.wrap_u64]; omega
   clear hz; go_enter Tryz.func172, Tryz.ntmps172; go_wp2_with (first | (go_at_call 156; (with_reducible refine FU.mono ?_); rintro e w1 ⟨v1, rfl, hv1, -, hb1⟩) | (go_at_call 171; (with_reducible refine (SE.out _ _ hb1 hv1).mono ?_); rintro e w2 ⟨v2, rfl, hB2, hV2, -, hk2⟩))
   go_ret
   exact ⟨rfl, ⟨v2, hB2, hV2⟩, (Keeps.of_below hb1).trans (hk2.mono hb1.size (fun _ _ h => h))⟩
theorem eisetint64 (gz T : Nat) (z0 z1 : Value) (R : List Value) (x : Int) (w : World) (hz : Bk w gz (z0 :: z1 :: R) T) (h1 : -9223372036854775808 ≤ x) (h2 : x < 9223372036854775808) :
 Calls Tryz.prog 183 #[.pointer (some ⟨gz, 0, none⟩), .int .i64 x] w fun e w' => e = .returned (.pointer (some ⟨gz, 0, none⟩)) ∧ Iz R T w' gz x ∧ Keeps w.heap.size [gz] w w' := by
 have hN : x.natAbs < 18446744073709551616 := by omega
 have FU := efromUint x.natAbs hN w; have SE := hid (fun v w' (h : Below w.heap.size w w') (q : Wd w' v (words x.natAbs)) => eiset gz T z0 z1 R (decide (x < 0)) v x.natAbs w' (hz.below h) q (by have := words_len_le (n := x.natAbs) (k := 2) (by omega); omega))
 rw [← sg_neg, ← sg_of] at SE; unfold Iz; by_cases hx : x < 0
 · obtain ⟨n, rfl⟩ : ∃ n : Nat, x = -(n : Int) := ⟨x.natAbs, by omega⟩
   rw [Int.natAbs_neg, Int.natAbs_natCast] at *; rw [decide_eq_true hx] at *; have e1 : IntKind.u64.wrap (-(n : Int)) = 18446744073709551616 - n := by rw [IntKind.wrap_u64]; omega
   have e2 : IntKind.u64.wrap (-(18446744073709551616 - (n : Int))) = n := by rw [IntKind.wrap_u64]; omega
   have e3 : IntKind.u64.wrap ((n : Int) - 18446744073709551616) = n := by rw [IntKind.wrap_u64]; omega
   have hx2 : decide (-(n : Int) < 0) = true := decide_eq_true hx; clear hz; go_enter Tryz.func183, Tryz.ntmps183; go_wp2_with (first | (go_at_call 209; (with_reducible refine FU.mono ?_); rintro e w1 ⟨v1, rfl, hv1, -, hb1⟩) | (go_at_call 201; (with_reducible refine (SE.out _ _ hb1 hv1).mono ?_); rintro e w2 ⟨v2, rfl, hB2, hV2, -, hk2⟩))
   go_ret
   exact ⟨rfl, ⟨v2, hB2, hV2⟩, (Keeps.of_below hb1).trans (hk2.mono hb1.size (fun _ _ h => h))⟩
 · obtain ⟨n, rfl⟩ : ∃ n : Nat, x = (n : Int) := ⟨x.natAbs, by omega⟩
   rw [Int.natAbs_natCast] at *; rw [decide_eq_false hx] at *; have hx2 : decide ((n : Int) < 0) = false := decide_eq_false hx; have e1 : IntKind.u64.wrap (n : Int) = n := by rw [IntKind.wrap_u64]; omega
   clear hz; go_enter Tryz.func183, Tryz.ntmps183; go_wp2_with (first | (go_at_call 209; (with_reducible refine FU.mono ?_); rintro e w1 ⟨v1, rfl, hv1, -, hb1⟩) | (go_at_call 201; (with_reducible refine (SE.out _ _ hb1 hv1).mono ?_); rintro e w2 ⟨v2, rfl, hB2, hV2, -, hk2⟩))
   go_ret
   exact ⟨rfl, ⟨v2, hB2, hV2⟩, (Keeps.of_below hb1).trans (hk2.mono hb1.size (fun _ _ h => h))⟩
end Go.Proofs.YthjeejnggpjnjaaGreatDoor
