/- Where a place goes; what may be asked. All are places. Do the places rest?. Rows of numbers, copied. What a place is away from the others. A range from behind. Value and slope. Polish, one step. A round. Round. -/
import Derived.Test.YtcoillcppmibgaaGreatDoorD02
import Derived.RangeFuncBox
import Derived.RangeFuncLeaves
import Derived.RangeFuncFrom
import Derived.Shelf.Abstract
import Derived.OwnWalkIn
import Derived.TacticsInMore
import Derived.LoopNIn
import Derived.LoopIn
import Derived.Stop.RegionWithIn
import Derived.RangeFuncCalls
set_option linter.unusedSimpArgs false
set_option linter.unusedVariables false
namespace Go.Proofs.YtcoillcppmibgaaGreatDoor
section
open Go.RowKit
set_option maxHeartbeats 4000000 in
theorem bits_any (a : Nat) (w : World) (h : feq a a = true) : Calls Tryz.prog 104 #[.float .f64 a] w fun e w' => e = .returned (.int .u64 a) ∧ w = w' := by
  have h1 := f64bits_run
  have n := ne_of_eq h
  unfold feq at h
  go_enter Tryz.func104, Tryz.ntmps104
  go_wp2_with fail
  go_ret
  exact ⟨rfl, rfl⟩
set_option maxHeartbeats 4000000 in
theorem same_any (a b : Nat) (w : World) (ha : feq a a = true) (hb : feq b b = true) : Calls Tryz.prog 75 #[.float .f64 a, .float .f64 b] w fun e w' => e = .returned (.bool (decide (a = b))) ∧ w = w' := by
  have ka := fun w => bits_any a w ha
  have kb := fun w => bits_any b w hb
  clear ha hb
  obtain ⟨q, hq⟩ : ∃ q, decide (a = b) = q := ⟨_, rfl⟩
  rw [hq]
  have hi : ((a : Int) == (b : Int)) = q := by
    rw [← hq]
    by_cases h : a = b
    · rw [decide_eq_true h, h]; simp
    · rw [decide_eq_false h]; simp; omega
  clear hq
  cases q
  all_goals
    go_enter Tryz.func75, Tryz.ntmps75
    go_wp2_with (first | (go_at_call 104; (with_reducible refine Calls.mono (ka _) ?_); rintro e wc ⟨rfl, rfl⟩) | (go_at_call 104; (with_reducible refine Calls.mono (kb _) ?_); rintro e wc ⟨rfl, rfl⟩))
    go_ret
    first | exact ⟨rfl, rfl⟩ | (refine ⟨?_, rfl⟩; simp_all)
/-- Where a place goes. -/
def cgone (z m : Pl) : Option (Pl × Bool) := (csub z.1 z.2 m.1 m.2).bind fun n => some (n, cfin m && okP n)
set_option maxHeartbeats 4000000 in
theorem cgone_any (z m : Pl) (w : World) {r : Pl × Bool} (h : cgone z m = some r) : Calls Tryz.prog 34 #[.complex .f64 z.1 z.2, .complex .f64 m.1 m.2] w fun e w' => e = .returned (.tuple #[.complex .f64 r.1.1 r.1.2, .bool r.2]) ∧ w = w' := by
  obtain ⟨n, e0, h⟩ := bind_some h
  obtain rfl := (Option.some.inj h).symm
  have k0 := fun w => csub_any _ _ _ _ w e0
  have k1 := fun w => pfinite_any m.1 m.2 w
  have k2 := fun w => zplace_any n.1 n.2 w
  clear e0 h
  have e1 : cfin m = (fle (fabs m.1) 9218868437227405311 && fle (fabs m.2) 9218868437227405311) := rfl
  have e2 : okP n = okP (n.1, n.2) := rfl
  rw [← e1] at k1
  rw [← e2] at k2
  clear e1 e2
  generalize cfin m = p at *
  generalize okP n = q at *
  cases p <;> cases q
  all_goals
    go_enter Tryz.func34, Tryz.ntmps34
    go_wp2_with (first | (go_at_call 15; (with_reducible refine Calls.mono (k0 _) ?_); rintro e wc ⟨rfl, rfl⟩) | (go_at_call 25; (with_reducible refine Calls.mono (k1 _) ?_); rintro e wc ⟨rfl, rfl⟩) | (go_at_call 32; (with_reducible refine Calls.mono (k2 _) ?_); rintro e wc ⟨rfl, rfl⟩))
    go_ret2
    exact ⟨rfl, rfl⟩
set_option synthInstance.maxHeartbeats 2000000 in
set_option synthInstance.maxSize 100000 in
set_option maxRecDepth 100000 in
set_option maxHeartbeats 16000000 in
theorem asked_any {w : World} {g : Nat} (l : List Pl) (off cap : Nat) (z : Pl) (hok : polyOk l = true) (hz : okP z = true) (hc : reads w g off l) : Calls Tryz.prog 73 #[.slice (some ⟨g, off, none⟩) l.length cap, .complex .f64 z.1 z.2] w fun e w' => e = .returned (.int .i64 0) ∧ w = w' := by
  have hnot := run_not
  have CK := hid (polycheck_ok l g off cap w hok hc)
  have pz := fun w => place_any z.1 z.2 w
  rw [show okP (z.1, z.2) = true from hz] at pz
  clear hok hz hc
  go_enter Tryz.func73, Tryz.ntmps73
  go_wp2_with (first | (go_at_call 19; (with_reducible refine Calls.mono CK.out ?_); rintro e wc ⟨rfl, rfl⟩) | (go_at_call 14; (with_reducible refine Calls.mono (pz _) ?_); rintro e wc ⟨rfl, rfl⟩))
  go_ret
  exact ⟨rfl, rfl⟩
end
section
open Go.RowKit
set_option maxHeartbeats 4000000 in
theorem zall_any (l : List Pl) (b off cap : Nat) (w : World) (hn : l.length ≤ 4096) (hc : reads w b off l) (hp : ∀ i, i < l.length → okP (l.getD i (0, 0)) = true) :
    Calls Tryz.prog 46 #[.slice (some ⟨b, off, none⟩) l.length cap, .func (.func 32) #[] #[]] w fun e w' => e = .returned (.bool true) ∧ w = w' := by
  have HC := hid hc
  have HP := hid hp
  clear hc hp
  have hnot := run_not
  go_enter Tryz.func46, Tryz.ntmps46
  go_wp2_with fail
  go_loop [6, 9] (fun _ i => ∃ k : Nat, k ≤ l.length ∧ i = .int .i64 k) (fun _ i => l.length - (intOf i).toNat)
  case atStart => exact ⟨0, Nat.zero_le _, rfl⟩
  case round =>
    obtain ⟨k, hk, rfl⟩ := hrel
    by_cases hlt : k < l.length
    · have hcell := HC.out k hlt
      have hpl := HP.out k hlt
      generalize hz : l.getD k (0, 0) = z at hcell hpl
      clear hz
      have kz := fun w => zplace_any z.1 z.2 w
      rw [show okP (z.1, z.2) = true from hpl] at kz
      clear hpl
      go_wp2_with (go_at_call 32; (with_reducible refine Calls.mono (kz _) ?_); rintro e w' ⟨rfl, rfl⟩)
      go_round
      case rel => exact ⟨k + 1, by omega, by go_num⟩
      case measure => simp [intOf]; omega
    · go_wp2_with fail
      go_ret
      exact ⟨rfl, rfl⟩
end
section
open Go.RowKit
/-- Has a place gone on? -/
def near1 (o z : Pl) : Option Bool := (clen z.1 z.2).bind fun l => (fmul 4391009636686233600 l).bind fun m => cnear z.1 z.2 o.1 o.2 m
set_option synthInstance.maxHeartbeats 2000000 in
set_option synthInstance.maxSize 100000 in
set_option maxRecDepth 100000 in
set_option maxHeartbeats 16000000 in
theorem rests_any {w : World} {g h : Nat} {c1 c2 : Nat} (o z : List Pl) (r : Nat → Bool) (hl : o.length = z.length) (hn : z.length ≤ 100) (hg : reads w g 0 o) (hh : reads w h 0 z) (hr : ∀ k, k < z.length → near1 (o.getD k (0, 0)) (z.getD k (0, 0)) = some (r k)) {q : Bool} (hq : q = (List.range z.length).all r) :
    Calls Tryz.prog 30 #[.slice (some ⟨g, 0, none⟩) o.length c1, .slice (some ⟨h, 0, none⟩) z.length c2] w fun e w' => e = .returned (.bool q) ∧ Kp0 w w' := by
  have HG := hid hg
  have HH := hid hh
  have HR := hid hr
  obtain rfl := hq
  obtain ⟨q, hq⟩ : ∃ q, q = (List.range z.length).all r := ⟨_, rfl⟩
  rw [← hq]
  have HQ := hid hq
  have hnot := run_not
  rw [hl]
  have HL := hid hl
  clear hg hh hr hq hl
  go_enter Tryz.func30, Tryz.ntmps30
  go_wp2_with fail
  go_loopw [5, 8] (fun _ i wx => ∃ k : Nat, k ≤ z.length ∧ i = .int .i64 k ∧ (∃ d, wx = w.drewN d) ∧ ∀ j, j < k → r j = true) (fun _ i _ => z.length - (intOf i).toNat)
  case atStart => exact ⟨0, Nat.zero_le _, rfl, ⟨0, rfl⟩, fun j hj => by omega⟩
  case round =>
    obtain ⟨k, hk, rfl, hd0, hall⟩ := hrel
    have HD := hid hd0
    obtain ⟨d, hd⟩ := hd0
    have HGR : Hid (Gr w wr) := hid (by rw [hd]; infer_instance)
    clear hd
    have HA := hid hall
    clear hall
    by_cases hlt : k < z.length
    · have z1 : wr.cell? ⟨h, k, none⟩ = some (.complex .f64 (z.getD k (0, 0)).1 (z.getD k (0, 0)).2) := by
        have := HH.out k hlt
        rw [Nat.zero_add] at this
        obtain ⟨d, hd⟩ := HD.out
        rw [hd]; exact this
      have o1 : wr.cell? ⟨g, k, none⟩ = some (.complex .f64 (o.getD k (0, 0)).1 (o.getD k (0, 0)).2) := by
        have := HG.out k (by rw [HL.out]; exact hlt)
        rw [Nat.zero_add] at this
        obtain ⟨d, hd⟩ := HD.out
        rw [hd]; exact this
      have hr1 := HR.out k hlt
      obtain ⟨rk, hrk⟩ : ∃ rk, r k = rk := ⟨_, rfl⟩
      rw [hrk] at hr1
      have HRK := hid hrk
      clear hrk
      generalize z.getD k (0, 0) = zz at *
      generalize o.getD k (0, 0) = oo at *
      obtain ⟨l, e0, hr1⟩ := bind_some hr1
      obtain ⟨m, e1, e2⟩ := bind_some hr1
      have k0 : ∀ W : World, Calls Tryz.prog 27 #[.complex .f64 zz.1 zz.2] W fun e w' => e = .returned (.float .f64 l) ∧ w' = W := fun W => (clen_any _ _ W e0).mono (fun _ _ h => ⟨h.1, h.2.symm⟩)
      have k1 := run_fmul e1
      have k2 : ∀ W : World, Calls Tryz.prog 9 #[.complex .f64 zz.1 zz.2, .complex .f64 oo.1 oo.2, .float .f64 m] W fun e w' => e = .returned (.bool rk) ∧ w' = W := fun W => (cnear_any _ _ _ _ _ W e2).mono (fun _ _ h => ⟨h.1, h.2.symm⟩)
      have z2 : (0 : Int) ≤ (k : Int) := by omega
      have z3 : (k : Int) < (z.length : Int) := by omega
      clear e0 e1 e2 hr1
      cases rk
      all_goals
        go_wp2_with fail
        go_quiet (first | (go_at_call 27; refine Calls.quiet_of_same (k0 _)) | (go_at_call 9; refine Calls.quiet_of_same (k2 _)))
        go_wp2_with fail
      · go_ret
        haveI := HGR.out
        refine ⟨?_, ⟨Gr.out⟩⟩
        have := HRK.out
        rw [HQ.out]
        have : (List.range z.length).all r = false := by
          rw [List.all_eq_false]
          exact ⟨k, List.mem_range.2 hlt, by rw [HRK.out]; decide⟩
        rw [this]
        rfl
      · go_round
        case rel => exact ⟨k + 1, by omega, by go_num, (by obtain ⟨d, hd⟩ := HD.out; exact ⟨_, by rw [hd, World.drewN_drewN]⟩), fun j hj => by
          rcases Nat.lt_or_eq_of_le (Nat.lt_succ_iff.1 hj) with h | h
          · exact HA.out j h
          · rw [h]; exact HRK.out⟩
        case measure => simp [intOf]; omega
    · obtain rfl : k = z.length := by omega
      clear hlt
      go_wp2_with fail
      go_ret
      haveI := HGR.out
      refine ⟨?_, ⟨Gr.out⟩⟩
      have hq := HQ.out
      have : (List.range z.length).all r = true := by
        rw [List.all_eq_true]
        exact fun j hj => HA.out j (List.mem_range.1 hj)
      rw [hq, this]
      rfl
end
section
open Go.RowKit
def ECx (_ : World) (u : Value) (x : Pl) : Prop := u = .complex .f64 x.1 x.2
theorem eok_cx (T : Nat) : EOk T ECx := ⟨fun h _ => h, fun _ _ h => h, fun h => by rw [h]; rfl⟩
/-- Numbers at a block's head. -/
def Pls (w : World) (g : Nat) (l : List Pl) : Prop := ∃ C : Array Value, w.heap[g]? = some (.cells C 26 (0, 0)) ∧ ∀ i, i < l.length → C[i]? = some (.complex .f64 (l.getD i (0, 0)).1 (l.getD i (0, 0)).2)
theorem Pls.lt {w : World} {g : Nat} {l : List Pl} (h : Pls w g l) : g < w.heap.size := by
  obtain ⟨C, h1, -⟩ := h
  exact lt_of_block h1
theorem Pls.cell {w : World} {g : Nat} {l : List Pl} (h : Pls w g l) {i : Nat} (hi : i < l.length) : w.cell? ⟨g, i, none⟩ = some (.complex .f64 (l.getD i (0, 0)).1 (l.getD i (0, 0)).2) := by
  obtain ⟨C, h1, h2⟩ := h
  rw [cell_of_block h1]
  exact h2 i hi
theorem Pls.reads {w : World} {g : Nat} {l : List Pl} (h : Pls w g l) : reads w g 0 l := fun i hi => by
  rw [Nat.zero_add]
  exact h.cell hi
theorem Pls.free {w : World} {g : Nat} {l : List Pl} (h : Pls w g l) (i : Nat) : w.frozen? ⟨g, i, none⟩ = false := by
  obtain ⟨C, h1, -⟩ := h
  exact free_of_block h1 i
theorem Pls.of_heap {w w' : World} {g : Nat} {l : List Pl} (h : Pls w g l) (e : w'.heap[g]? = w.heap[g]?) : Pls w' g l := by
  obtain ⟨C, h1, h2⟩ := h
  exact ⟨C, e.trans h1, h2⟩
theorem Pls.below {w w' : World} {g : Nat} {l : List Pl} (h : Pls w g l) (b : Below w.heap.size w w') : Pls w' g l := h.of_heap (b.block g h.lt)
theorem Pls.set {w : World} {g : Nat} {l : List Pl} (h : Pls w g l) {i : Nat} (hi : i < l.length) (x : Pl) : Pls (w.setCell ⟨g, i, none⟩ (.complex .f64 x.1 x.2)) g (l.set i x) := by
  obtain ⟨C, h1, h2⟩ := h
  refine ⟨C.setIfInBounds i (.complex .f64 x.1 x.2), set_of_block h1 i _, fun j hj => ?_⟩
  rw [List.length_set] at hj
  have hc := h2 j hj
  rw [Array.getElem?_setIfInBounds, List.getD_eq_getElem?_getD, List.getElem?_set]
  by_cases hij : i = j
  · subst hij
    obtain ⟨hlt, -⟩ := Array.getElem?_eq_some_iff.1 hc
    rw [if_pos rfl, if_pos hlt, if_pos rfl, if_pos hj]
    rfl
  · rw [if_neg hij, if_neg hij, hc, List.getD_eq_getElem?_getD]
class PlC (w : World) (g : Nat) (l : outParam (List Pl)) : Prop where
  out : Pls w g l
instance plC_alloc (w : World) (g : Nat) (l : List Pl) (o : Obj) [h : PlC w g l] : PlC (w.alloc o) g l := ⟨h.out.below ((Below.refl _ _).alloc (Nat.le_refl _) _)⟩
instance plC_drew (w : World) (g : Nat) (l : List Pl) [h : PlC w g l] : PlC w.drew g l := ⟨h.out.below (Below.drew (Below.refl _ _))⟩
instance plC_drewN (w : World) (n g : Nat) (l : List Pl) [h : PlC w g l] : PlC (w.drewN n) g l := ⟨h.out⟩
instance plC_kp0 (W w' : World) (g : Nat) (l : List Pl) [k : Kp0 W w'] [h : PlC W g l] : PlC w' g l := ⟨h.out.below k.out⟩
instance plC_setN (w : World) (g n i : Nat) (x : Value) (l : List Pl) [e : NeN g n] [h : PlC w g l] : PlC (w.setCell ⟨n, i, none⟩ x) g l := ⟨h.out.of_heap (block_ne _ _ _ _ _ e.out)⟩
instance has_pl (w : World) (g : Nat) (l : List Pl) [h : PlC w g l] : Has w g := ⟨h.out.lt⟩
theorem Pls.rw {w : World} {g cap : Nat} {l : List Pl} (h : Pls w g l) (hc : l.length ≤ cap) : Rw 26 ECx w (.slice (some ⟨g, 0, none⟩) l.length cap) l := by
  obtain ⟨C, h1, h2⟩ := h
  refine ⟨_, _, rfl, hc, fun _ => ⟨g, 0, C, rfl, h1, fun i x hx => ?_⟩⟩
  obtain ⟨hi, hx⟩ := List.getElem?_eq_some_iff.1 hx
  rw [Nat.zero_add]
  refine ⟨_, h2 i hi, ?_⟩
  rw [List.getD_eq_getElem?_getD, List.getElem?_eq_getElem hi, ← hx]
  rfl
theorem pls_of_rw {w : World} {g n cap : Nat} {l : List Pl} (h : Rw 26 ECx w (.slice (some ⟨g, 0, none⟩) n cap) l) (h0 : 0 < l.length) : Pls w g l ∧ l.length ≤ cap := by
  obtain ⟨a, c, h1, h2, h3⟩ := h
  simp only [Value.slice.injEq] at h1
  obtain ⟨rfl, rfl, rfl⟩ := h1
  obtain ⟨g', off, C, k1, k2, k3⟩ := h3 h0
  simp only [Option.some.injEq, Addr.mk.injEq, and_true] at k1
  obtain ⟨rfl, rfl⟩ := k1
  refine ⟨⟨C, k2, fun i hi => ?_⟩, h2⟩
  obtain ⟨u, q1, q2⟩ := k3 i _ (List.getElem?_eq_getElem hi)
  rw [Nat.zero_add] at q1
  rw [q1, show u = _ from q2, List.getD_eq_getElem?_getD, List.getElem?_eq_getElem hi]
  rfl
theorem info26z : (Tryz.prog.info? 26).map (fun i => (i.zero, i.size, i.bytes)) = some (some (.complex .f64 0 0), 1, 16) := by kernel_rfl
theorem und28z : Tryz.prog.underlying 28 = some (.slice 26) := by kernel_rfl
@[go_sem] theorem nil28 (a : Addr) (n c : Nat) (w : World) : (binOp .eql 28 (.slice (some a) n c) (.slice none 0 0)).run Tryz.prog w = .ok (.bool false) w := by kernel_rfl
theorem ox_none {w : World} {k : Nat} [hs : HasSize w k] : Ox 26 ECx k (w.alloc (.cells #[] 26)) (.slice (some ⟨k, 0, none⟩) 0 0) ([] : List Pl) := ⟨[], ⟨rfl, .inr ⟨k, 0, #[], rfl, Nat.le_refl _, block_at w _ k, Nat.le_refl _, by unfold maxLen; omega, rfl, rfl⟩⟩, fun i x h => by cases h⟩
set_option synthInstance.maxHeartbeats 2000000 in
set_option synthInstance.maxSize 100000 in
set_option maxRecDepth 100000 in
set_option maxHeartbeats 16000000 in
theorem clone_any {w : World} {g m cap : Nat} (l : List Pl) (hm : l.length = m) [hg : PlC w g l] (h0 : 0 < m) (hn : m ≤ 100) (hc : m ≤ cap) :
    Calls Tryz.prog 70 #[.slice (some ⟨g, 0, none⟩) m cap] w fun e w' => ∃ b c, e = .returned (.slice (some ⟨b, 0, none⟩) m c) ∧ m ≤ c ∧ PlC w' b l ∧ Kp0 w w' ∧ UpW w b := by
  have HG := hid (show ∀ W, Below w.heap.size w W → Rw 26 ECx W (.slice (some ⟨g, 0, none⟩) m cap) l from fun W hW => by
    subst hm
    exact (hg.out.below hW).rw hc)
  have HM := hid hm
  clear hm
  obtain ⟨ti, hti, htz, hts, htb⟩ : ∃ ti, Tryz.prog.info? 26 = some ti ∧ ti.zero = some (.complex .f64 0 0) ∧ ti.size = 1 ∧ ti.bytes = 16 := by
    have h := info26z
    cases e : Tryz.prog.info? 26 with
    | none => rw [e] at h; cases h
    | some ti =>
      rw [e] at h
      simp only [Option.map_some, Option.some.injEq, Prod.mk.injEq] at h
      exact ⟨ti, rfl, h.1, h.2.1, h.2.2⟩
  go_enter Tryz.func70, Tryz.ntmps70
  go_wp2_with (at_builtin; go_loud (refine app_row (eok_cx 26) rfl _ _ 28 rfl w.heap.size ti _ 16 und28z hti htz hts htb rfl (by decide) rfl ox_none rfl (m := l) (HG.out _ Gr.out) (by rw [HM.out]; exact h0) (by rw [HM.out]; simp only [List.length_nil]; omega) (by rw [World.size_alloc]; exact Nat.le_succ _) ?_; intro g' cap' n' wa hn2 ho' hg' hbl hkE; obtain rfl : n' = m := (hn2.trans (by rw [HM.out]; simp)); have kb' := hbl w (Nat.le_refl _) Gr.out; clear hkE hbl; try clear hn2))
  go_ret
  rw [List.nil_append] at ho'
  have h2 := pls_of_rw ho'.rw (by rw [HM.out]; exact h0)
  rw [HM.out] at h2
  exact ⟨_, _, rfl, h2.2, ⟨h2.1⟩, ⟨kb'⟩, ⟨hg'⟩⟩
end
section
open Go.RowKit
/-- What a place is away from the others, one more. -/
def awayS (z : List Pl) (k : Nat) (s : Pl) (j : Nat) : Option Pl :=
  (csub (z.getD k (0, 0)).1 (z.getD k (0, 0)).2 (z.getD j (0, 0)).1 (z.getD j (0, 0)).2).bind fun d => if j = k then some s else if nought d = true then some s else (cdiv 4607182418800017408 0 d.1 d.2).bind fun q => cadd s.1 s.2 q.1 q.2
def awayR (z : List Pl) (k : Nat) : Nat → Option Pl
  | 0 => some (0, 0)
  | j + 1 => (awayR z k j).bind fun s => awayS z k s j
theorem awayR_pre {z : List Pl} {k : Nat} : ∀ {m : Nat} {r : Pl}, awayR z k m = some r → ∀ j, j < m → ∃ s t, awayR z k j = some s ∧ awayS z k s j = some t ∧ awayR z k (j + 1) = some t
  | 0, _, _, j, hj => absurd hj (Nat.not_lt_zero _)
  | m + 1, r, h, j, hj => by
    obtain ⟨s, h1, h2⟩ := bind_some (show (awayR z k m).bind (fun s => awayS z k s m) = some r from h)
    rcases Nat.lt_or_eq_of_le (Nat.lt_succ_iff.1 hj) with hlt | rfl
    · exact awayR_pre h1 j hlt
    · exact ⟨s, r, h1, h2, h⟩
set_option synthInstance.maxHeartbeats 2000000 in
set_option synthInstance.maxSize 100000 in
set_option maxRecDepth 100000 in
set_option maxHeartbeats 16000000 in
theorem away_any {w : World} {b p c m k : Nat} (z : List Pl) (hm : z.length = m) (hk : k < m) (hn : m ≤ 100) (hp : w.cell? ⟨p, 0, none⟩ = some (.slice (some ⟨b, 0, none⟩) m c)) (hz : Pls w b z) {r : Pl} (h : awayR z k m = some r) :
    Calls Tryz.prog 71 #[.int .i64 k, .pointer (some ⟨p, 0, none⟩)] w fun e w' => e = .returned (.complex .f64 r.1 r.2) ∧ ∃ n, w' = w.drewN n := by
  have HZ := hid (show ∀ j, j < m → w.cell? ⟨b, j, none⟩ = some (.complex .f64 (z.getD j (0, 0)).1 (z.getD j (0, 0)).2) from fun j hj => hz.cell (by rw [hm]; exact hj))
  have HA := hid (awayR_pre h)
  have HR := hid h
  clear hz h hm
  have hnot := run_not
  obtain ⟨kk, hkk⟩ : ∃ kk : Int, kk = (k : Int) := ⟨_, rfl⟩
  have hk2 : kk < (m : Int) := by omega
  have hk1 : (0 : Int) ≤ kk := by omega
  have HKK := hid hkk
  have zk := HZ.out k hk
  have zk2 : w.cell? ⟨b, kk.toNat, none⟩ = some (.complex .f64 (z.getD k (0, 0)).1 (z.getD k (0, 0)).2) := by
    rw [hkk]; exact zk
  rw [← hkk]
  have ZK := hid zk2
  have HP := hid hp
  clear hkk zk zk2
  go_enter Tryz.func71, Tryz.ntmps71
  go_wp2_with fail
  clear hp
  go_loopw [4, 9] (fun s4 i wx => ∃ (j : Nat) (s : Pl), j ≤ m ∧ i = .int .i64 j ∧ (∃ d, wx = w.drewN d) ∧ awayR z k j = some s ∧ s4 = .complex .f64 s.1 s.2) (fun _ i _ => m - (intOf i).toNat)
  case atStart => exact ⟨0, (0, 0), Nat.zero_le _, rfl, ⟨0, rfl⟩, rfl, rfl⟩
  case round =>
    obtain ⟨j, s, hj, rfl, hd0, hs, rfl⟩ := hrel
    have HD := hid hd0
    have zk3 : wr.cell? ⟨b, kk.toNat, none⟩ = some (.complex .f64 (z.getD k (0, 0)).1 (z.getD k (0, 0)).2) := by
      obtain ⟨d, rfl⟩ := hd0
      exact ZK.out
    have pp : wr.cell? ⟨p, 0, none⟩ = some (.slice (some ⟨b, 0, none⟩) m c) := by
      obtain ⟨d, rfl⟩ := hd0
      exact HP.out
    clear hd0
    by_cases hlt : j < m
    · obtain ⟨s', t, a1, a2, a3⟩ := HA.out j hlt
      rw [hs] at a1
      obtain rfl := Option.some.inj a1
      have HT := hid a3
      clear a1 a3 hs
      have zj : wr.cell? ⟨b, j, none⟩ = some (.complex .f64 (z.getD j (0, 0)).1 (z.getD j (0, 0)).2) := by
        obtain ⟨d, hd⟩ := HD.out
        rw [hd]; exact HZ.out j hlt
      unfold awayS at a2
      generalize z.getD j (0, 0) = zz at *
      generalize hzo : z.getD k (0, 0) = oo at *
      obtain ⟨q, e0, a2⟩ := bind_some a2
      have k0 : ∀ W : World, Calls Tryz.prog 15 #[.complex .f64 oo.1 oo.2, .complex .f64 zz.1 zz.2] W fun e w' => e = .returned (.complex .f64 q.1 q.2) ∧ w' = W := fun W => (csub_any _ _ _ _ W e0).mono (fun _ _ h => ⟨h.1, h.2.symm⟩)
      have z2 : (0 : Int) ≤ (j : Int) := by omega
      have z3 : (j : Int) < (m : Int) := by omega
      have kn := fun w => znought_any q.1 q.2 w
      clear e0 hzo
      by_cases hjk : j = k
      · rw [if_pos hjk] at a2
        obtain rfl := Option.some.inj a2
        have tj : ((j : Int) != kk) = false := by rw [HKK.out, hjk]; simp
        clear hjk a2
        go_wp2_with fail
        go_quiet ((go_at_call 15; refine Calls.quiet_of_same (k0 _)))
        go_wp2_with fail
        go_round
        case rel => exact ⟨j + 1, s, by omega, by go_num, (by obtain ⟨d, hd⟩ := HD.out; exact ⟨_, by rw [hd, World.drewN_drewN]⟩), HT.out, rfl⟩
        case measure => simp [intOf]; omega
      · rw [if_neg hjk] at a2
        have tj : ((j : Int) != kk) = true := by rw [HKK.out]; simp; omega
        clear hjk
        by_cases hq : nought q = true
        · rw [if_pos hq] at a2
          obtain rfl := Option.some.inj a2
          rw [show nought (q.1, q.2) = true from hq] at kn
          clear hq a2
          go_wp2_with fail
          go_quiet ((go_at_call 15; refine Calls.quiet_of_same (k0 _)))
          go_wp2_with ((go_at_call 23; (with_reducible refine Calls.mono (kn _) ?_); rintro e wc ⟨rfl, rfl⟩))
          go_round
          case rel => exact ⟨j + 1, s, by omega, by go_num, (by obtain ⟨d, hd⟩ := HD.out; exact ⟨_, by rw [hd, World.drewN_drewN]⟩), HT.out, rfl⟩
          case measure => simp [intOf]; omega
        · rw [if_neg hq] at a2
          rw [Bool.not_eq_true] at hq
          rw [show nought (q.1, q.2) = false from hq] at kn
          obtain ⟨f, e1, e2⟩ := bind_some a2
          have k1 := fun w => cdiv_any _ _ _ _ w e1
          have k2 := fun w => cadd_any _ _ _ _ w e2
          clear hq a2 e1 e2
          go_wp2_with fail
          go_quiet ((go_at_call 15; refine Calls.quiet_of_same (k0 _)))
          go_wp2_with (first | (go_at_call 23; (with_reducible refine Calls.mono (kn _) ?_); rintro e wc ⟨rfl, rfl⟩) | (go_at_call 24; (with_reducible refine Calls.mono (k1 _) ?_); rintro e wc ⟨rfl, rfl⟩) | (go_at_call 22; (with_reducible refine Calls.mono (k2 _) ?_); rintro e wc ⟨rfl, rfl⟩))
          go_round
          case rel => exact ⟨j + 1, t, by omega, by go_num, (by obtain ⟨d, hd⟩ := HD.out; exact ⟨_, by rw [hd, World.drewN_drewN]⟩), HT.out, rfl⟩
          case measure => simp [intOf]; omega
    · obtain rfl : j = m := by omega
      rw [HR.out] at hs
      obtain rfl := Option.some.inj hs
      clear hlt hs
      go_wp2_with fail
      go_ret
      exact ⟨rfl, HD.out⟩
end
section
open Go.RowKit
open Go.Shelf
attribute [local go_sem] Oper.semAt_some
/-- What comes at the round j: from behind. -/
def backF (l : List Pl) (j : Nat) : Int × Pl := (((l.length - 1 - j : Nat) : Int), l.getD (l.length - 1 - j) (0, 0))
def encB (l : List Pl) (j : Nat) : Array Value := #[.int .i64 (backF l j).1, .complex .f64 (backF l j).2.1 (backF l j).2.2]
set_option maxRecDepth 100000 in
set_option maxHeartbeats 4000000 in
/-- slices.Backward's closure. -/
theorem back1_in (F : Fence) (n : Nat) (h7 : F.fn 103) (hro : F.round = none) (hn : 1 ≤ n) (l0 Bs n₀ g off cap : Nat) (l : List Pl) (hlen : l.length ≤ 100) (hb : g < n₀) (hBn : Bs < n₀) (S : List Nat) (hgS : g ∉ S) (hBS : Bs ∉ S) (J Jx : List Nat → World → Prop)
    (hY : ∀ pre x W, J pre W → pre.length < l.length → YieldAt F (n - 1) Tryz.prog l0 (encB l x) W fun e W' =>
      (e = .returned (.bool true) ∧ J (pre ++ [x]) W' ∧ Keeps n₀ S W W') ∨ (e = .returned (.bool false) ∧ Jx (pre ++ [x]) W'))
    (W : World) (hBs : W.cell? ⟨Bs, 0, none⟩ = some (.slice (some ⟨g, off, none⟩) l.length cap)) (hc : ∀ j, j < l.length → W.cell? ⟨g, off + j, none⟩ = some (.complex .f64 (l.getD j (0, 0)).1 (l.getD j (0, 0)).2)) (h0 : J [] W) :
    CallsIn F n Tryz.prog 103 #[.func (.yield l0) #[] #[], .pointer (some ⟨Bs, 0, none⟩)] W fun e W' => (∃ v, e = .returned v) ∧
      ((∃ ys, ys = List.range l.length ∧ J ys W') ∨ (∃ pre, True ∧ Jx pre W')) := by
  refine callsIn_of_wp Tryz.func103 rfl h7 ?_ hro
  simp only [Tryz.ntmps103, List.size_toArray, List.length_cons, List.length_nil, Nat.reduceAdd, Nat.reduceSub, Array.replicate_succ, Array.replicate_zero, List.push_toArray, List.append_toArray, List.nil_append, List.cons_append]
  gi_wp2
  gi_loopw [3] (fun i wr => ∃ k : Nat, k ≤ l.length ∧ i = .int .i64 ((l.length : Int) - 1 - k) ∧ J (List.range k) wr ∧ Keeps n₀ S W wr)
    (fun i _ => (intOf i + 1).toNat)
  case atStart => exact ⟨0, Nat.zero_le _, by simp, h0, Keeps.refl _ _ _⟩
  case round =>
    obtain ⟨k, hk, rfl, hJs, hnx⟩ := hrel
    have hbx : wr.cell? ⟨Bs, 0, none⟩ = some (.slice (some ⟨g, off, none⟩) l.length cap) := (hnx.cell (q := ⟨Bs, 0, none⟩) hBn hBS).trans hBs
    by_cases hlt : k < l.length
    · obtain ⟨i, hi⟩ : ∃ i : Nat, i = l.length - 1 - k := ⟨_, rfl⟩
      have hcx : wr.cell? ⟨g, off + i, none⟩ = some (.complex .f64 (l.getD i (0, 0)).1 (l.getD i (0, 0)).2) := (hnx.cell (q := ⟨g, off + i, none⟩) hb hgS).trans (hc i (by omega))
      have hbf : backF l k = ((i : Int), l.getD i (0, 0)) := by unfold backF; rw [← hi]
      obtain ⟨fn, tmps, assign, body, hy, hR⟩ := hY _ k wr hJs (by rw [List.length_range]; exact hlt)
      have hen : encB l k = #[.int .i64 (i : Int), .complex .f64 (l.getD i (0, 0)).1 (l.getD i (0, 0)).2] := by unfold encB; rw [hbf]
      rw [hen] at hy
      have ei : (l.length : Int) - 1 - k = (i : Int) := by omega
      have hil : i < l.length := by omega
      have HI := hid hi
      rw [ei]
      generalize l.getD i (0, 0) = z at *
      clear hi ei
      gi_wp2
      refine hR.mono ?_
      rintro e W3 (⟨rfl, hJ3, hk3⟩ | ⟨rfl, hJx3⟩)
      · gi_wp2
        go_roundw
        case rel => exact ⟨k + 1, by omega, by have := HI.out; congr 1; omega, by rw [List.range_succ]; exact hJ3, hnx.trans hk3⟩
        case measure => simp [intOf]
      · gi_wp2
        refine bodyPost_ret (results_none rfl _ _ _) rfl ?_
        exact ⟨⟨_, rfl⟩, .inr ⟨_, trivial, hJx3⟩⟩
    · obtain rfl : k = l.length := by omega
      rw [show (l.length : Int) - 1 - (l.length : Int) = -1 by omega]
      gi_wp2
      go_end0
      exact ⟨⟨_, rfl⟩, .inl ⟨_, rfl, hJs⟩⟩
theorem back_stops (F : Fence) (n : Nat) (h7 : F.fn 103) (hro : F.round = none) (hn : 1 ≤ n) (Bs n₀ g off cap : Nat) (l : List Pl) (hlen : l.length ≤ 100) (hb : g < n₀) (hBn : Bs < n₀) (S : List Nat) (hgS : g ∉ S) (hBS : Bs ∉ S) (w : World) (hn₀ : n₀ ≤ w.heap.size)
    (hBs : w.cell? ⟨Bs, 0, none⟩ = some (.slice (some ⟨g, off, none⟩) l.length cap)) (hc : ∀ j, j < l.length → w.cell? ⟨g, off + j, none⟩ = some (.complex .f64 (l.getD j (0, 0)).1 (l.getD j (0, 0)).2)) :
    SeqStopsK F n Tryz.prog 103 #[.pointer (some ⟨Bs, 0, none⟩)] (encB l) (Keeps n₀ S) (fun ys => ys = List.range l.length) (fun _ => True) l.length w := fun l0 J Jx W hW _ _ hY h0 => by
  refine (back1_in F n h7 hro hn l0 Bs n₀ g off cap l hlen hb hBn S hgS hBS J Jx hY W ((hW.cell (p := ⟨Bs, 0, none⟩) (Nat.lt_of_lt_of_le hBn hn₀)).trans hBs) (fun j hj => (hW.cell (p := ⟨g, off + j, none⟩) (Nat.lt_of_lt_of_le hb hn₀)).trans (hc j hj)) h0).mono ?_
  exact fun e W' h => h
end
section
open Go.RowKit
open Go.Shelf
/-- A step of value and slope. -/
def bothS (z c : Pl) (vt : Pl × Pl) : Option (Pl × Pl) := (cmul vt.2.1 vt.2.2 z.1 z.2).bind fun a => (cadd a.1 a.2 vt.1.1 vt.1.2).bind fun t => (cmul vt.1.1 vt.1.2 z.1 z.2).bind fun b => (cadd b.1 b.2 c.1 c.2).bind fun v => some (v, t)
def bothR (z : Pl) (l : List Pl) : List Nat → Pl × Pl → Option (Pl × Pl)
  | [], vt => some vt
  | j :: js, vt => (bothS z (backF l j).2 vt).bind (bothR z l js)
theorem bothR_snoc (z : Pl) (l : List Pl) (j : Nat) : ∀ (js : List Nat) (vt : Pl × Pl), bothR z l (js ++ [j]) vt = (bothR z l js vt).bind (bothS z (backF l j).2)
  | [], vt => by
    show (bothS z (backF l j).2 vt).bind (bothR z l []) = (some vt).bind (bothS z (backF l j).2)
    rw [Option.bind_some]
    cases bothS z (backF l j).2 vt <;> rfl
  | i :: js, vt => by
    show (bothS z (backF l i).2 vt).bind (bothR z l (js ++ [j])) = ((bothS z (backF l i).2 vt).bind (bothR z l js)).bind (bothS z (backF l j).2)
    cases h : bothS z (backF l i).2 vt with
    | none => rfl
    | some x =>
      rw [Option.bind_some, Option.bind_some]
      exact bothR_snoc z l j js x
/-- Whatever comes of the coefficients, so many steps are numbers. -/
def chk (z : Pl) (l : List Pl) : Nat → Pl × Pl → Bool
  | 0, _ => true
  | n + 1, vt => l.all fun c => match bothS z c vt with
    | some x => chk z l n x
    | none => false
theorem chk_step {z : Pl} {l : List Pl} {n : Nat} {vt : Pl × Pl} (h : chk z l (n + 1) vt = true) (h0 : 0 < l.length) (j : Nat) : ∃ x, bothS z (backF l j).2 vt = some x ∧ chk z l n x = true := by
  unfold chk at h
  rw [List.all_eq_true] at h
  have hm : (backF l j).2 ∈ l := by
    unfold backF
    simp only
    rw [List.getD_eq_getElem?_getD, List.getElem?_eq_getElem (by omega)]
    exact List.getElem_mem _
  have := h _ hm
  cases hb : bothS z (backF l j).2 vt with
  | none => rw [hb] at this; cases this
  | some x => rw [hb] at this; exact ⟨x, rfl, this⟩
/-- Value and slope in memory. -/
structure Vt (w : World) (z : Pl) (l : List Pl) (c : Pl) (pre : List Nat) (W : World) : Prop where
  vt : ∃ vt : Pl × Pl, bothR z l pre (c, (0, 0)) = some vt ∧ (pre.length ≤ l.length → chk z l (l.length - pre.length) vt = true) ∧ W.cell? ⟨w.heap.size + 1, 0, none⟩ = some (.complex .f64 vt.1.1 vt.1.2) ∧ W.cell? ⟨w.heap.size + 1 + 1, 0, none⟩ = some (.complex .f64 vt.2.1 vt.2.2)
  z : W.cell? ⟨w.heap.size, 0, none⟩ = some (.complex .f64 z.1 z.2)
  f1 : W.frozen? ⟨w.heap.size + 1, 0, none⟩ = false
  f2 : W.frozen? ⟨w.heap.size + 1 + 1, 0, none⟩ = false
  gr : Below w.heap.size w W
theorem vt_own (w : World) (z : Pl) (l : List Pl) (c : Pl) (B : Nat) (hB : w.heap.size ≤ B) : OwnFrom B (Vt w z l c) := by
  intro s W W' row h hg hr
  obtain ⟨⟨vt, h1, h1b, h2, h3⟩, h4, h5, h6, h7⟩ := h
  have hr2 : ∀ r, row = some r → ∃ o : Obj, W.heap[r]? = some o ∧ o.isCells = false := fun r e => (hr r e).2
  exact ⟨⟨vt, h1, h1b, cell_kept h2 hg hr2, cell_kept h3 hg hr2⟩, cell_kept h4 hg hr2, (frozen_kept h2 hg hr2).trans h5, (frozen_kept h3 hg hr2).trans h6, h7.grown hg h7.size (fun k e => Nat.le_trans hB (hr k e).1)⟩
theorem keepsK_t {n₀ : Nat} {S : List Nat} {A B C : World} (h : Keeps n₀ S A B) (k : Keeps n₀ S B C) : Keeps n₀ S A C := h.trans k
theorem keepsK_b {n₀ : Nat} {S : List Nat} {w : World} (hn : n₀ ≤ w.heap.size) (W : World) (l : Nat) (o o' : Obj) (hl : w.heap.size ≤ l) (h : W.heap[l]? = some o) (h1 : o.isCells = false) (h2 : o.isWalk = false) : Keeps n₀ S W (W.putObj l o') :=
  (Keeps.of_below (S := []) (belowK_b hn W l o o' hl h h1 h2)).mono (Nat.le_refl _) (by simp)
theorem backw_any (a : Option Addr) (n c : Nat) (w : World) : Calls Tryz.prog 74 #[.slice a n c] w fun e w' => e = .returned (.func (.func 103) #[] #[.pointer (some ⟨w.heap.size, 0, none⟩)]) ∧ w' = w.alloc (.cells #[.slice a n c] 28) := by
  go_enter Tryz.func74, Tryz.ntmps74
  go_wp2_with fail
  go_ret
  exact ⟨rfl, rfl⟩
set_option synthInstance.maxHeartbeats 2000000 in
set_option synthInstance.maxSize 100000 in
set_option maxRecDepth 100000 in
set_option maxHeartbeats 16000000 in
theorem both_any {w : World} {g off cap m : Nat} (l : List Pl) (z : Pl) (c : Pl) (hok : polyOk (l ++ [c]) = true) (hm : l.length = m) (hcap : m + 1 ≤ cap) (hz : okP z = true) (hg : g < w.heap.size) (hc : reads w g off (l ++ [c])) {r : Pl × Pl} (h : bothR z l (List.range m) (c, (0, 0)) = some r) (hchk : chk z l m (c, (0, 0)) = true) (hf1 : cfin r.1 = true) (hf2 : cfin r.2 = true) :
    Calls Tryz.prog 33 #[.slice (some ⟨g, off, none⟩) (m + 1) cap, .complex .f64 z.1 z.2] w fun e w' => e = .returned (.tuple #[.complex .f64 r.1.1 r.1.2, .complex .f64 r.2.1 r.2.2, .int .i64 0]) ∧ Kp0 w w' := by
  have hml : (l ++ [c]).length = m + 1 := by simp [hm]
  obtain ⟨p1, p2, -, -⟩ := polyOk_out hok
  have hnot := run_not
  have AK := hid (fun (W : World) (hb : Below w.heap.size w W) => asked_any (w := W) (l ++ [c]) off cap z hok hz (fun i hi => (World.cell?_of_block (w := w) (hb.block g hg)).trans (hc i hi)))
  have HC := hid (show ∀ j, j < l.length → w.cell? ⟨g, off + j, none⟩ = some (.complex .f64 (l.getD j (0, 0)).1 (l.getD j (0, 0)).2) from fun j hj => by
    have := hc j (by rw [hml]; omega)
    rw [List.getD_eq_getElem?_getD, List.getElem?_append_left hj, ← List.getD_eq_getElem?_getD] at this
    exact this)
  have hcl : w.cell? ⟨g, off + m, none⟩ = some (.complex .f64 c.1 c.2) := by
    have := hc m (by rw [hml]; omega)
    rw [List.getD_eq_getElem?_getD, List.getElem?_append_right (by omega), hm] at this
    simpa using this
  haveI : Has w g := ⟨hg⟩
  have HM := hid hm
  have HG := hid hg
  have HR := hid h
  have HK := hid hchk
  have HF := hid (show _ ∧ _ from ⟨hf1, hf2⟩)
  have hm65 : m ≤ 65 := by omega
  rw [hml] at AK
  clear hc hok hz h hchk hf1 hf2 hml p1 p2 hm hg
  refine (callsIn_wide (n := 9)).1 (callsIn_of_wp_marks (F := Fence.wide) (n := 9) Tryz.func33 rfl trivial (wpIn_wide.2 ?_) rfl)
  simp only [Tryz.ntmps33, List.size_toArray, List.length_cons, List.length_nil, Nat.reduceAdd, Nat.reduceSub, Array.replicate_succ, Array.replicate_zero, List.push_toArray, List.append_toArray, List.nil_append, List.cons_append]
  go_wp2_with (first | (go_at_call 73; (with_reducible refine Calls.mono (AK.out _ Gr.out) ?_); rintro e wc ⟨rfl, rfl⟩) | (go_at_call 74; (with_reducible refine Calls.mono (backw_any _ _ _ _) ?_); rintro e wb ⟨rfl, rfl⟩))
  have hpre : ∀ j, j < l.length → (((((w.alloc (.cells #[.complex .f64 z.1 z.2] 26)).alloc (.cells #[.complex .f64 c.1 c.2] 26)).alloc (.cells #[.complex .f64 0 0] 26)).alloc (.cells #[.slice (some ⟨g, off, none⟩) m cap] 28)) : World).cell? ⟨g, off + j, none⟩ = some (.complex .f64 (l.getD j (0, 0)).1 (l.getD j (0, 0)).2) := fun j hj => by
    have := HC.out j hj
    have hb : Below w.heap.size w ((((w.alloc (.cells #[.complex .f64 z.1 z.2] 26)).alloc (.cells #[.complex .f64 c.1 c.2] 26)).alloc (.cells #[.complex .f64 0 0] 26)).alloc (.cells #[.slice (some ⟨g, off, none⟩) m cap] 28)) := Gr.out
    exact (World.cell?_of_block (w := w) (hb.block g HG.out)).trans this
  obtain ⟨W0, hW0⟩ : ∃ W0, W0 = ((((w.alloc (.cells #[.complex .f64 z.1 z.2] 26)).alloc (.cells #[.complex .f64 c.1 c.2] 26)).alloc (.cells #[.complex .f64 0 0] 26)).alloc (.cells #[.slice (some ⟨g, off, none⟩) m cap] 28)) := ⟨_, rfl⟩
  haveI b0 : BkC W0 w.heap.size [.complex .f64 z.1 z.2] 26 := by rw [hW0]; infer_instance
  haveI b1 : BkC W0 (w.heap.size + 1) [.complex .f64 c.1 c.2] 26 := by rw [hW0]; infer_instance
  haveI b2 : BkC W0 (w.heap.size + 1 + 1) [.complex .f64 0 0] 26 := by rw [hW0]; infer_instance
  haveI b3 : BkC W0 (w.heap.size + 1 + 1 + 1) [.slice (some ⟨g, off, none⟩) m cap] 28 := by rw [hW0]; infer_instance
  haveI bg : Gr w W0 := by rw [hW0]; infer_instance
  have hsz : W0.heap.size = w.heap.size + 1 + 1 + 1 + 1 := by rw [hW0]; simp
  rw [← hW0] at hpre ⊢
  clear hW0
  have hgw := HG.out
  have hbx : W0.cell? ⟨w.heap.size + 1 + 1 + 1, 0, none⟩ = some (.slice (some ⟨g, off, none⟩) l.length cap) := by rw [HM.out]; exact b3.out.cell (i := 0) rfl
  have hst := back_stops Fence.wide (9 - 1) trivial rfl (by decide) (w.heap.size + 1 + 1 + 1) W0.heap.size g off cap l (by rw [HM.out]; omega) (by omega) (by omega) [w.heap.size + 1, w.heap.size + 1 + 1] (by simp only [List.mem_cons, List.not_mem_nil, or_false, not_or]; omega) (by simp only [List.mem_cons, List.not_mem_nil, or_false, not_or]; omega) W0 (Nat.le_refl _) hbx hpre
  refine wpIn_wide.1 (wpIn_rangeFunc_ownF (F := Fence.wide) (n := 9) (α := Nat) (w0 := W0) rfl (by decide) (gf := 103) (lb := #[.pointer (some ⟨w.heap.size + 1 + 1 + 1, 0, none⟩)]) rfl trivial (enters_of Tryz.func103 (by kernel_rfl) rfl) hst keepsK_t (keepsK_b (Nat.le_refl _)) (Below.refl _ _) (fun x => rfl)
    (Vt w z l c) (fun _ _ _ => False) (vt_own w z l c _ (by omega)) (fun _ _ _ _ _ hs _ _ => hs) ⟨⟨(c, (0, 0)), rfl, fun _ => by rw [HM.out]; exact HK.out, b1.out.cell (i := 0) rfl, b2.out.cell (i := 0) rfl⟩, b0.out.cell (i := 0) rfl, b1.out.free 0, b2.out.free 0, bg.out⟩ ?a1 ?assign ?body ?done ?stop)
  case assign =>
    intro l0 x W K hK
    simp only [encB]
    gi_wp2_with (rw [Oper.semAt_eq _ _ _ (fun c h => by cases h)]; go_simp; try go_bits)
    exact hK
  case stop =>
    rintro D c2 pre W _ _ h _
    exact h.elim
  case body =>
    rintro l0 pre x W ⟨⟨vt, v1, v1b, v2, v3⟩, v4, v5, v6, v7⟩ hpl
    obtain ⟨d, hd⟩ : ∃ d, l.length - pre.length = d + 1 := ⟨l.length - pre.length - 1, by omega⟩
    have hck := v1b (by omega)
    rw [hd] at hck
    obtain ⟨y, hy, hy2⟩ := chk_step hck (by omega) x
    have hbs := hy
    obtain ⟨q1, e1, hy⟩ := bind_some hy
    obtain ⟨q2, e2, hy⟩ := bind_some hy
    obtain ⟨q3, e3, hy⟩ := bind_some hy
    obtain ⟨q4, e4, hy⟩ := bind_some hy
    obtain rfl := (Option.some.inj hy).symm
    have k1 := fun w => cmul_any _ _ _ _ w e1
    have k2 := fun w => cadd_any _ _ _ _ w e2
    have k3 := fun w => cmul_any _ _ _ _ w e3
    have k4 := fun w => cadd_any _ _ _ _ w e4
    have HX := hid (show bothR z l (pre ++ [x]) (c, (0, 0)) = some (q4, q2) from by rw [bothR_snoc, v1]; exact hbs)
    have HY := hid hy2
    have HD := hid hd
    have HG7 := hid v7
    clear e1 e2 e3 e4 hy hbs hck hy2 v1 v1b hd hpl v7
    generalize hcx : backF l x = cx at *
    gi_wp2_with (rw [Oper.semAt_eq _ _ _ (fun c h => by cases h)]; go_simp; try go_bits)
    gi_region_with (first | ((rw [Oper.semAt_eq _ _ _ (fun c h => by cases h)]; go_simp; try go_bits); refine ⟨trivial, ?_⟩; refine (CallsIn.inRound l0 (callsIn_wide.2 (k1 _))).mono ?_; rintro e wc ⟨rfl, rfl⟩) | ((rw [Oper.semAt_eq _ _ _ (fun c h => by cases h)]; go_simp; try go_bits); refine ⟨trivial, ?_⟩; refine (CallsIn.inRound l0 (callsIn_wide.2 (k2 _))).mono ?_; rintro e wc ⟨rfl, rfl⟩) | (rw [Oper.semAt_eq _ _ _ (fun c h => by cases h)]; go_simp; try go_bits))
    all_goals
      gi_wp2_with (first | ((rw [Oper.semAt_eq _ _ _ (fun c h => by cases h)]; go_simp; try go_bits); refine ⟨trivial, ?_⟩; refine (CallsIn.inRound l0 (callsIn_wide.2 (k3 _))).mono ?_; rintro e wc ⟨rfl, rfl⟩) | ((rw [Oper.semAt_eq _ _ _ (fun c h => by cases h)]; go_simp; try go_bits); refine ⟨trivial, ?_⟩; refine (CallsIn.inRound l0 (callsIn_wide.2 (k4 _))).mono ?_; rintro e wc ⟨rfl, rfl⟩) | (rw [Oper.semAt_eq _ _ _ (fun c h => by cases h)]; go_simp; try go_bits))
      all_goals
        refine ⟨(KeepsOthers.setCell _ _ _).trans ((KeepsOthers.setCell _ _ _).trans (KeepsOthers.drew _)), (((Keeps.refl _ _ W).set (Or.inl (by simp)) 0 _).set (Or.inl (by simp)) 0 _).drew, ⟨⟨(q4, q2), HX.out, fun _ => ?_, ?_, ?_⟩, ?_, ?_, ?_, Below.drew (below_store (below_store HG7.out (by omega)) (by omega))⟩⟩
        · rw [List.length_append]
          have := HD.out
          rw [show l.length - (pre.length + [x].length) = d by simp; omega]
          exact HY.out
        all_goals simp [go_sem, v2, v3, v4, v5, v6]
  case done =>
    rintro D xs W4 hD rfl hV hDf
    obtain ⟨⟨vt, v1, v1b, v2, v3⟩, v4, v5, v6, v7⟩ := hV
    rw [HM.out, HR.out] at v1
    obtain rfl := (Option.some.inj v1).symm
    have kf1 := fun w => pfinite_any vt.1.1 vt.1.2 w
    have kf2 := fun w => pfinite_any vt.2.1 vt.2.2 w
    rw [show (fle (fabs vt.1.1) 9218868437227405311 && fle (fabs vt.1.2) 9218868437227405311) = true from HF.out.1] at kf1
    rw [show (fle (fabs vt.2.1) 9218868437227405311 && fle (fabs vt.2.2) 9218868437227405311) = true from HF.out.2] at kf2
    have HV := hid v7
    have HDF := hid hDf
    have HDD := hid hD
    clear v1 v1b v7 hDf hD
    go_wp2_with (first | (go_at_call 25; (with_reducible refine Calls.mono (kf1 _) ?_); rintro e wc ⟨rfl, rfl⟩) | (go_at_call 25; (with_reducible refine Calls.mono (kf2 _) ?_); rintro e wc ⟨rfl, rfl⟩))
    go_quiet (fail)
    go_wp2_with fail
    refine ⟨by simp, .inl ⟨_, _, rfl, run_takeDeferred (show (World.heap _)[D]? = _ from HDF.out), ?_⟩⟩
    refine ⟨_, results_tmp3 rfl _ _ _, rfl, ⟨?_⟩⟩
    refine Below.grown (w := World.drewN W4 _) ⟨HV.out.os, HV.out.tape, HV.out.output, HV.out.size, HV.out.block⟩ (grownBy_putObj' _ D _) HV.out.size (fun k e => ?_)
    obtain rfl := Option.some.inj e
    have := HDD.out
    omega
end
section
open Go.RowKit
set_option maxHeartbeats 4000000 in
theorem csame_any (a b : Pl) (w : World) (h1 : feq a.1 a.1 = true) (h2 : feq a.2 a.2 = true) (h3 : feq b.1 b.1 = true) (h4 : feq b.2 b.2 = true) : Calls Tryz.prog 35 #[.complex .f64 a.1 a.2, .complex .f64 b.1 b.2] w fun e w' => e = .returned (.bool (decide (a.1 = b.1) && decide (a.2 = b.2))) ∧ w = w' := by
  have k1 := fun w => same_any a.1 b.1 w h1 h3
  have k2 := fun w => same_any a.2 b.2 w h2 h4
  clear h1 h2 h3 h4
  generalize decide (a.1 = b.1) = p at *
  generalize decide (a.2 = b.2) = q at *
  cases p <;> cases q
  all_goals
    go_enter Tryz.func35, Tryz.ntmps35
    go_wp2_with (first | (go_at_call 75; (with_reducible refine Calls.mono (k1 _) ?_); rintro e wc ⟨rfl, rfl⟩) | (go_at_call 75; (with_reducible refine Calls.mono (k2 _) ?_); rintro e wc ⟨rfl, rfl⟩))
    go_ret
    exact ⟨rfl, rfl⟩
set_option synthInstance.maxHeartbeats 2000000 in
set_option synthInstance.maxSize 100000 in
set_option maxRecDepth 100000 in
set_option maxHeartbeats 16000000 in
theorem polish1_any {w : World} {g off cap m : Nat} (l : List Pl) (z c : Pl) (hok : polyOk (l ++ [c]) = true) (hm : l.length = m) (hcap : m + 1 ≤ cap) (hz : okP z = true) (hg : g < w.heap.size) (hc : reads w g off (l ++ [c])) {v s d n : Pl} (h : bothR z l (List.range m) (c, (0, 0)) = some (v, s)) (hchk : chk z l m (c, (0, 0)) = true) (hf1 : cfin v = true) (hf2 : cfin s = true)
    (hv : nought v = false) (hd : cdiv v.1 v.2 s.1 s.2 = some d) (hn : cgone z d = some (n, true)) (hs : (decide (n.1 = z.1) && decide (n.2 = z.2)) = false) (hnn : feq n.1 n.1 = true ∧ feq n.2 n.2 = true ∧ feq z.1 z.1 = true ∧ feq z.2 z.2 = true) :
    Calls Tryz.prog 11 #[.slice (some ⟨g, off, none⟩) (m + 1) cap, .complex .f64 z.1 z.2, .int .i64 1] w fun e w' => e = .returned (.tuple #[.complex .f64 n.1 n.2, .int .i64 0]) ∧ Kp0 w w' := by
  have hnot := run_not
  have hml : (l ++ [c]).length = m + 1 := by simp [hm]
  have CK := hid (polycheck_ok (l ++ [c]) g off cap w hok hc)
  rw [hml] at CK
  have pz := fun w => zplace_any z.1 z.2 w
  rw [show okP (z.1, z.2) = true from hz] at pz
  have BO := hid (both_any l z c hok hm hcap hz hg hc h hchk hf1 hf2)
  have kn := fun w => znought_any v.1 v.2 w
  rw [show nought (v.1, v.2) = false from hv] at kn
  have kd := fun w => cdiv_any _ _ _ _ w hd
  have kg := fun w => cgone_any z d w hn
  have ks := fun w => csame_any n z w hnn.1 hnn.2.1 hnn.2.2.1 hnn.2.2.2
  rw [hs] at ks
  have hm65 : m ≤ 65 := by
    have := (polyOk_out hok).2.1
    omega
  clear hok hz hc h hchk hf1 hf2 hv hd hn hs hnn
  go_enter Tryz.func11, Tryz.ntmps11
  go_wp2_with (first | (go_at_call 19; (with_reducible refine Calls.mono CK.out ?_); rintro e wc ⟨rfl, rfl⟩) | (go_at_call 32; (with_reducible refine Calls.mono (pz _) ?_); rintro e wc ⟨rfl, rfl⟩))
  go_loopw [1, 29] (fun s1 s29 wx => (s29 = .int .i64 0 ∧ s1 = .complex .f64 z.1 z.2 ∧ wx = w) ∨ (s29 = .int .i64 1 ∧ s1 = .complex .f64 n.1 n.2 ∧ Gr w wx)) (fun _ s29 _ => 1 - (intOf s29).toNat)
  case atStart => exact .inl ⟨rfl, rfl, rfl⟩
  case round =>
    rcases hrel with ⟨rfl, rfl, rfl⟩ | ⟨rfl, rfl, ig⟩
    · go_wp2_with (first | (go_at_call 33; (with_reducible refine Calls.mono BO.out ?_); rintro e wb ⟨rfl, _⟩) | (go_at_call 23; (with_reducible refine Calls.mono (kn _) ?_); rintro e wc ⟨rfl, rfl⟩) | (go_at_call 24; (with_reducible refine Calls.mono (kd _) ?_); rintro e wc ⟨rfl, rfl⟩) | (go_at_call 34; (with_reducible refine Calls.mono (kg _) ?_); rintro e wc ⟨rfl, rfl⟩) | (go_at_call 35; (with_reducible refine Calls.mono (ks _) ?_); rintro e wc ⟨rfl, rfl⟩))
      case roundEnd => exact ⟨.inr ⟨rfl, rfl, inferInstance⟩, by decide⟩
    · go_wp2_with fail
      go_ret2
      exact ⟨rfl, ⟨Gr.out⟩⟩
end
section
open Go.RowKit
/-- A place's step. -/
def moveR (y : List Pl) (k n : Nat) (v s : Pl) : Option (Pl × Bool) :=
  (cdiv v.1 v.2 s.1 s.2).bind fun w => (awayR y k n).bind fun a => (cmul w.1 w.2 a.1 a.2).bind fun p => (csub 4607182418800017408 0 p.1 p.2).bind fun q => (cdiv w.1 w.2 q.1 q.2).bind fun x => cgone (y.getD k (0, 0)) x
def stepR (l : List Pl) (c : Pl) (m n : Nat) (y : List Pl) (k : Nat) : Option (List Pl) :=
  (bothR (y.getD k (0, 0)) l (List.range m) (c, (0, 0))).bind fun vs =>
    if (okP (y.getD k (0, 0)) && chk (y.getD k (0, 0)) l m (c, (0, 0)) && cfin vs.1 && cfin vs.2) = true then
      if nought vs.1 = true then some y else (moveR y k n vs.1 vs.2).bind fun x => if x.2 = true then some (y.set k x.1) else some y
    else none
def roundR (l : List Pl) (c : Pl) (m n : Nat) (z : List Pl) : Nat → Option (List Pl)
  | 0 => some z
  | k + 1 => (roundR l c m n z k).bind fun y => stepR l c m n y k
theorem roundR_pre {l : List Pl} {c : Pl} {m n : Nat} {z : List Pl} : ∀ {j : Nat} {r : List Pl}, roundR l c m n z j = some r → ∀ k, k < j → ∃ s t, roundR l c m n z k = some s ∧ stepR l c m n s k = some t ∧ roundR l c m n z (k + 1) = some t
  | 0, _, _, k, hk => absurd hk (Nat.not_lt_zero _)
  | j + 1, r, h, k, hk => by
    obtain ⟨s, h1, h2⟩ := bind_some (show (roundR l c m n z j).bind (fun y => stepR l c m n y j) = some r from h)
    rcases Nat.lt_or_eq_of_le (Nat.lt_succ_iff.1 hk) with hlt | rfl
    · exact roundR_pre h1 k hlt
    · exact ⟨s, r, h1, h2, h⟩
set_option synthInstance.maxHeartbeats 2000000 in
set_option synthInstance.maxSize 100000 in
set_option maxRecDepth 100000 in
set_option maxHeartbeats 16000000 in
theorem round_any {w : World} {g off cap m : Nat} (l : List Pl) (c : Pl) (hok : polyOk (l ++ [c]) = true) (hm : l.length = m) (hcap : m + 1 ≤ cap) (hg : g < w.heap.size) (hc : reads w g off (l ++ [c])) {h n ch : Nat} (z : List Pl) (hn : z.length = n) [hz : PlC w h z] (h0 : 0 < n) (hn1 : n ≤ 100) (hch : n ≤ ch) {r : List Pl} (hr : roundR l c m n z n = some r) :
    Calls Tryz.prog 29 #[.slice (some ⟨g, off, none⟩) (m + 1) cap, .slice (some ⟨h, 0, none⟩) n ch] w fun e w' => ∃ b cb, e = .returned (.slice (some ⟨b, 0, none⟩) n cb) ∧ n ≤ cb ∧ PlC w' b r ∧ Kp0 w w' ∧ UpW w b := by
  have hnot := run_not
  have HBO := hid (fun (W : World) (hW : Below w.heap.size w W) (u : Pl) (hu : okP u = true) (vs : Pl × Pl) (h1 : bothR u l (List.range m) (c, (0, 0)) = some vs) (h2 : chk u l m (c, (0, 0)) = true) (h3 : cfin vs.1 = true) (h4 : cfin vs.2 = true) => both_any (w := W) (g := g) (off := off) (cap := cap) l u c hok hm hcap hu (Nat.lt_of_lt_of_le hg hW.size) (fun i hi => (World.cell?_of_block (w := w) (hW.block g hg)).trans (hc i hi)) h1 h2 h3 h4)
  have HCL := hid (fun (W : World) (_ : Below w.heap.size w W) (_ : PlC W h z) => clone_any (w := W) (g := h) (cap := ch) z hn h0 hn1 hch)
  have HR := hid hr
  have HP := hid (roundR_pre hr)
  have HN := hid hn
  have hm65 : m ≤ 64 := by
    have := (polyOk_out hok).2.1
    simp only [List.length_append, List.length_cons, List.length_nil] at this
    omega
  clear hok hm hcap hg hc hn hr hch
  go_enter Tryz.func29, Tryz.ntmps29
  go_wp2_with fail
  go_step3
  go_wp2_with (go_at_call 70; (with_reducible refine Calls.mono (HCL.out _ Gr.out inferInstance) ?_); rintro e w1 ⟨b, cb, rfl, hcb, _, _, _⟩)
  have HUP := hid (show w.heap.size ≤ b from (Up.out : w.heap.size ≤ b))
  go_step3
  go_wp2_with fail
  go_loopw [19] (fun i wx => ∃ (k : Nat) (y : List Pl), k ≤ n ∧ i = .int .i64 k ∧ roundR l c m n z k = some y ∧ y.length = n ∧ Gr w wx ∧ PlC wx b y ∧ BkC wx w1.heap.size [.slice (some ⟨b, 0, none⟩) n cb] 28) (fun i _ => n - (intOf i).toNat)
  case atStart => exact ⟨0, z, Nat.zero_le _, rfl, rfl, HN.out, inferInstance, inferInstance, inferInstance⟩
  case round =>
    obtain ⟨k, y, hk, rfl, hy, hyn, ig, ib, ip⟩ := hrel
    have hp0 := ip.out.cell (i := 0) rfl
    haveI hpb : Has wr w1.heap.size := ⟨ip.out.lt⟩
    by_cases hlt : k < n
    · obtain ⟨s', t, a1, a2, a3⟩ := HP.out k hlt
      rw [hy] at a1
      obtain rfl := Option.some.inj a1
      have HT := hid a3
      have HY := hid hyn
      have hkc := ib.out.cell (i := k) (by rw [hyn]; exact hlt)
      have hkf := ib.out.free k
      have HSET := hid (fun (W : World) (hW : Below wr.heap.size wr W) (x : Pl) => (ib.out.below hW).set (i := k) (by rw [hyn]; exact hlt) x)
      have z2 : (0 : Int) ≤ (k : Int) := by omega
      have z3 : (k : Int) < (n : Int) := by omega
      unfold stepR at a2
      obtain ⟨vs, e0, b2⟩ := bind_some a2
      clear a2
      by_cases hq : (okP (y.getD k (0, 0)) && chk (y.getD k (0, 0)) l m (c, (0, 0)) && cfin vs.1 && cfin vs.2) = true
      case neg => rw [if_neg hq] at b2; cases b2
      rw [if_pos hq] at b2
      simp only [Bool.and_eq_true] at hq
      obtain ⟨⟨⟨q1, q2⟩, q3⟩, q4⟩ := hq
      generalize hyk : y.getD k (0, 0) = yk at *
      have HYK := hid hyk
      clear hyk
      have BO := hid (HBO.out wr ig.out _ q1 vs e0 q2 q3 q4)
      have AWN := hid (fun (a : Pl) (ha : awayR y k n = some a) (W : World) (hW : Below wr.heap.size wr W) => away_any (w := W) (p := w1.heap.size) (c := cb) y hyn hlt hn1 ((World.cell?_of_block (w := wr) (hW.block _ ip.out.lt)).trans hp0) (ib.out.below hW) ha)
      have kn := fun w => znought_any vs.1.1 vs.1.2 w
      clear a1 a3 hy hyn e0 q1 q2 q3 q4
      by_cases hnv : nought vs.1 = true
      · rw [if_pos hnv] at b2
        obtain rfl := Option.some.inj b2
        rw [show nought (vs.1.1, vs.1.2) = true from hnv] at kn
        clear b2 hnv
        go_wp2_with (first | (go_at_call 23; (with_reducible refine Calls.mono (kn _) ?_); rintro e wc ⟨rfl, rfl⟩) | (go_at_call 33; (with_reducible refine Calls.mono BO.out ?_); rintro e wb ⟨rfl, _⟩))
        go_round
        case rel => exact ⟨k + 1, y, by omega, by go_num, HT.out, HY.out, inferInstance, inferInstance, inferInstance⟩
        case measure => simp [intOf]; omega
      · rw [if_neg hnv] at b2
        rw [Bool.not_eq_true] at hnv
        rw [show nought (vs.1.1, vs.1.2) = false from hnv] at kn
        obtain ⟨x, f0, b2⟩ := bind_some b2
        unfold moveR at f0
        obtain ⟨f, e1, f0⟩ := bind_some f0
        obtain ⟨a, e2, f0⟩ := bind_some f0
        obtain ⟨p, e3, f0⟩ := bind_some f0
        obtain ⟨q, e4, f0⟩ := bind_some f0
        obtain ⟨d, e5, e6⟩ := bind_some f0
        rw [HYK.out] at e6
        have k1 := fun w => cdiv_any _ _ _ _ w e1
        have k2 := hid (AWN.out a e2)
        have k3 : ∀ W : World, Calls Tryz.prog 16 #[.complex .f64 f.1 f.2, .complex .f64 a.1 a.2] W fun e w' => e = .returned (.complex .f64 p.1 p.2) ∧ w' = W := fun W => (cmul_any _ _ _ _ W e3).mono (fun _ _ h => ⟨h.1, h.2.symm⟩)
        have k4 : ∀ W : World, Calls Tryz.prog 15 #[.complex .f64 4607182418800017408 0, .complex .f64 p.1 p.2] W fun e w' => e = .returned (.complex .f64 q.1 q.2) ∧ w' = W := fun W => (csub_any _ _ _ _ W e4).mono (fun _ _ h => ⟨h.1, h.2.symm⟩)
        have k5 : ∀ W : World, Calls Tryz.prog 24 #[.complex .f64 f.1 f.2, .complex .f64 q.1 q.2] W fun e w' => e = .returned (.complex .f64 d.1 d.2) ∧ w' = W := fun W => (cdiv_any _ _ _ _ W e5).mono (fun _ _ h => ⟨h.1, h.2.symm⟩)
        have k6 : ∀ W : World, Calls Tryz.prog 34 #[.complex .f64 yk.1 yk.2, .complex .f64 d.1 d.2] W fun e w' => e = .returned (.tuple #[.complex .f64 x.1.1 x.1.2, .bool x.2]) ∧ w' = W := fun W => (cgone_any _ _ W e6).mono (fun _ _ h => ⟨h.1, h.2.symm⟩)
        clear e1 e2 e3 e4 e5 e6 f0 hnv AWN HBO
        obtain ⟨xn, xb⟩ := x
        cases xb
        all_goals
          go_wp2_with (first | (go_at_call 23; (with_reducible refine Calls.mono (kn _) ?_); rintro e wc ⟨rfl, rfl⟩) | (go_at_call 33; (with_reducible refine Calls.mono BO.out ?_); rintro e wb ⟨rfl, _⟩) | (go_at_call 24; (with_reducible refine Calls.mono (k1 _) ?_); rintro e wc ⟨rfl, rfl⟩))
          go_quiet (first | (go_at_call 71; refine Calls.quiet_of (k2.out _ Gr.out)) | (go_at_call 16; refine Calls.quiet_of_same (k3 _)) | (go_at_call 15; refine Calls.quiet_of_same (k4 _)) | (go_at_call 24; refine Calls.quiet_of_same (k5 _)) | (go_at_call 34; refine Calls.quiet_of_same (k6 _)))
          go_wp2_with fail
        · go_round
          case rel =>
            rw [if_neg (by first | decide | simp)] at b2
            obtain rfl := Option.some.inj b2
            exact ⟨k + 1, y, by omega, by go_num, HT.out, HY.out, inferInstance, inferInstance, inferInstance⟩
          case measure => simp [intOf]; omega
        · go_round
          case rel =>
            rw [if_pos (by first | rfl | trivial)] at b2
            obtain rfl := Option.some.inj b2
            exact ⟨k + 1, _, by omega, by go_num, HT.out, by rw [List.length_set]; exact HY.out, inferInstance, ⟨HSET.out _ Gr.out xn⟩, inferInstance⟩
          case measure => simp [intOf]; omega
    · obtain rfl : k = n := by omega
      rw [HR.out] at hy
      obtain rfl := Option.some.inj hy
      clear hlt hy
      go_wp2_with fail
      try rw [Exit.noGoto_ret]
      go_ret
      exact ⟨b, cb, rfl, hcb, ib, ⟨ig.out⟩, ⟨HUP.out⟩⟩
end
section
open Go.RowKit
set_option synthInstance.maxHeartbeats 2000000 in
set_option synthInstance.maxSize 100000 in
set_option maxRecDepth 100000 in
set_option maxHeartbeats 16000000 in
theorem Round_any {w : World} {g off cap m : Nat} (l : List Pl) (c : Pl) (hok : polyOk (l ++ [c]) = true) (hm : l.length = m) (hcap : m + 1 ≤ cap) (hg : g < w.heap.size) (hc : reads w g off (l ++ [c])) {h ch : Nat} (z : List Pl) (hn : z.length = m) [hz : PlC w h z] (h0 : 0 < m) (hch : m ≤ ch) (hp : ∀ i, i < m → okP (z.getD i (0, 0)) = true) {r : List Pl} (hr : roundR l c m m z m = some r) :
    Calls Tryz.prog 13 #[.slice (some ⟨g, off, none⟩) (m + 1) cap, .slice (some ⟨h, 0, none⟩) m ch] w fun e w' => ∃ b cb, e = .returned (.tuple #[.slice (some ⟨b, 0, none⟩) m cb, .int .i64 0]) ∧ m ≤ cb ∧ PlC w' b r ∧ Kp0 w w' := by
  have hnot := run_not
  have hml : (l ++ [c]).length = m + 1 := by simp [hm]
  have hm65 : m ≤ 64 := by
    have := (polyOk_out hok).2.1
    omega
  have CK := hid (polycheck_ok (l ++ [c]) g off cap w hok hc)
  rw [hml] at CK
  have RO := hid (round_any (w := w) (g := g) (off := off) (cap := cap) (h := h) l c hok hm hcap hg hc z hn h0 (by omega) hch hr)
  have PA := hid (zall_any z h 0 ch w (by omega) hz.out.reads (by rw [hn]; exact hp))
  rw [hn] at PA
  clear hok hm hcap hg hc hn hch hp hr hml
  go_enter Tryz.func13, Tryz.ntmps13
  go_wp2_with (first | (go_at_call 19; (with_reducible refine Calls.mono (CK.out) ?_); rintro e wc ⟨rfl, rfl⟩) | (go_at_call 46; (with_reducible refine Calls.mono (PA.out) ?_); rintro e wc ⟨rfl, rfl⟩) | (go_at_call 29; (with_reducible refine Calls.mono RO.out ?_); rintro e wb ⟨b, cb, rfl, hcb, _, _, _⟩))
  go_ret2
  exact ⟨b, cb, rfl, hcb, inferInstance, ⟨Gr.out⟩⟩
end
end Go.Proofs.YtcoillcppmibgaaGreatDoor
