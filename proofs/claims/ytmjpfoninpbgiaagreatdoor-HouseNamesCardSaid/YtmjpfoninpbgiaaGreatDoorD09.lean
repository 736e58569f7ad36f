/- A name is put, or is not. A name is dropped. Rows of two and three names; are they known?. A flow is made of flows that are there, or not. Flows of one stream, put together. A flow is made of two. -/
import Derived.Test.YtmjpfoninpbgiaaGreatDoorD08
set_option linter.unusedSimpArgs false
set_option linter.unusedVariables false
namespace Go.Proofs.YtmjpfoninpbgiaaGreatDoor
section
open Go.RowKit
open Go.Maps Go.ChangeMaps
set_option synthInstance.maxHeartbeats 2000000 in
set_option synthInstance.maxSize 100000 in
set_option maxRecDepth 100000 in
set_option maxHeartbeats 16000000 in
theorem hChangeBad {w : World} {h m : Nat} {nm : ByteArray} {f : Value} (hsz : Hid (nm.size ≤ 70000)) (hfit : Hid (fitL nm.data.toList = false)) [hh : BkC w h [.bool true, .int .i32 0, .int .u32 0, .map (some m)] 51] : Calls Tryz.prog 19 #[.pointer (some ⟨h, 0, none⟩), .string nm, .slice none 0 0, f] w fun e w' => e = .returned (.int .i64 310) ∧ Kp0 w w' := by
  go_enter_defers Tryz.func19, Tryz.ntmps19
  go_wp2_with (go_at_call 24; (with_reducible refine Calls.mono (hKnownF (s := nm) hsz.out (m := m) (h := h)) ?_); rintro e wk ⟨rfl, hk0⟩; rw [if_neg (by rw [hfit.out]; decide)])
  exact ⟨_, results_tmp rfl _ _ _, rfl, ⟨Gr.out⟩⟩
set_option synthInstance.maxHeartbeats 2000000 in
set_option synthInstance.maxSize 100000 in
set_option maxRecDepth 100000 in
set_option maxHeartbeats 16000000 in
theorem hChangeE {w : World} {h m n p : Nat} {nm : ByteArray} {D : DataW Unit} {K : List UInt8 → Bool} (hsz : Hid (nm.size ≤ 70000)) (hfit : Hid (fitL nm.data.toList = true)) [hh : BkC w h [.bool true, .int .i32 0, .int .u32 0, .map (some m)] 51] (hm : Mk w m n D K) (hn : Hid (n < 1000000)) {ec : Int} (hec : (ec != 0) = true) (hcl : Hid (∀ W : World, Keeps w.heap.size [h] w W → Calls Tryz.prog 20 #[.slice none 0 0, .pointer (some ⟨p, 0, none⟩)] W fun e w' => ∃ a l c, e = .returned (.tuple #[.agg #[.slice a l c], .int .i64 ec]) ∧ Kp0 W w')) : Calls Tryz.prog 19 #[.pointer (some ⟨h, 0, none⟩), .string nm, .slice none 0 0, .func (.func 20) #[] #[.pointer (some ⟨p, 0, none⟩)]] w fun e w' => e = .returned (.int .i64 ec) ∧ Kp0 w w' := by
  have hkey : keyOf Tryz.prog 9 (.string nm) = some (.string nm.data.toList) := Go.WideMaps.keyOf_string_mk und9z (by have := hsz.out; unfold maxLen; omega)
  haveI nhm : NeN h m := ⟨by
    obtain ⟨es, c, hmm⟩ := hm.heap
    rintro rfl
    rw [hh.out] at hmm
    cases hmm⟩
  go_enter_defers Tryz.func19, Tryz.ntmps19
  go_wp2_with (first | (go_at_call 24; (with_reducible refine Calls.mono (hKnownF (s := nm) hsz.out (m := m) (h := h)) ?_); rintro e wk ⟨rfl, hk0⟩; rw [if_pos hfit.out]; have ck : wk.cell? ⟨h, 1, none⟩ = some (.int .i32 0) := (inferInstance : BkC wk h _ _).out.cell rfl; have ck3 : wk.cell? ⟨h, 3, none⟩ = some (.map (some m)) := (inferInstance : BkC wk h _ _).out.cell rfl; have fk := (inferInstance : BkC wk h _ _).out.free 1; have hm1 : Hid (Mk wk m n D K) := hid (hm.below Gr.out)) | (go_at_call 25; (with_reducible refine Calls.mono (Go.MuLone.lock_free Tryz.muLib ⟨h, 1, none⟩ wk ck fk) ?_); rintro e wl ⟨rfl, rfl⟩))
  go_loopw [10, 36] (fun s10 s36 wx => s10 = .slice none 0 0 ∧ s36 = .int .i64 0 ∧ (wk.setCell ⟨h, 1, none⟩ (.int .i32 1)) = wx) (fun _ _ _ => 0)
  case atStart => exact ⟨rfl, rfl, rfl⟩
  case round =>
    obtain ⟨rfl, rfl, rfl⟩ := hrel
    focus
      go_wp2_with (go_at_call 20; (with_reducible refine Calls.mono (hcl.out _ GS.out) ?_); rintro e wp ⟨a, l, c, rfl, hkp⟩; have hm3 : Hid (Mk (wp.alloc (.cells #[.slice a l c] 29)) m n D K) := hid ((hm1.out.lock (inferInstance : BkC wk h _ 51).out 1 (.int .i32 1)).below Gr.out))
      refine leaves_cons (f := 26) (args := #[.pointer (some ⟨h, 1, none⟩)]) (by simp) (by simp [go_sem]) ?_
      refine (Go.MuLone.unlock_deferred Tryz.muLib ⟨h, 1, none⟩ .returning _ ?_ ?_).mono ?_
      · exact (inferInstance : BkC _ h _ 51).out.cell rfl
      · exact (inferInstance : BkC _ h _ 51).out.free 1
      rintro e u' w'' ⟨rfl, rfl, rfl⟩
      exact ⟨_, results_tmp rfl _ _ _, rfl, ⟨keeps_same (h := h) (L := [.bool true, .int .i32 0, .int .u32 0, .map (some m)]) (T := 51) GS.out hh.out (inferInstance : BkC _ h _ 51).out⟩⟩
set_option synthInstance.maxHeartbeats 2000000 in
set_option synthInstance.maxSize 100000 in
set_option maxRecDepth 100000 in
set_option maxHeartbeats 16000000 in
theorem hChangeP {w : World} {h m n p : Nat} {nm : ByteArray} {D : DataW Unit} {K : List UInt8 → Bool} (hsz : Hid (nm.size ≤ 70000)) (hfit : Hid (fitL nm.data.toList = true)) [hh : BkC w h [.bool true, .int .i32 0, .int .u32 0, .map (some m)] 51] (hm : Mk w m n D K) (hn : Hid (n < 1000000)) (hroom : K nm.data.toList = true ∨ Maps.size D < 64) (hcl : Hid (∀ W : World, Keeps w.heap.size [h] w W → Calls Tryz.prog 20 #[.slice none 0 0, .pointer (some ⟨p, 0, none⟩)] W fun e w' => ∃ a l c, e = .returned (.tuple #[.agg #[.slice a l c], .int .i64 0]) ∧ Kp0 W w')) : Calls Tryz.prog 19 #[.pointer (some ⟨h, 0, none⟩), .string nm, .slice none 0 0, .func (.func 20) #[] #[.pointer (some ⟨p, 0, none⟩)]] w fun e w' => e = .returned (.int .i64 0) ∧ ∃ b : Nat, BkC w' h [.bool true, .int .i32 0, .int .u32 0, .map (some m)] 51 ∧ Mk w' m (n + 1) (D.put (.string nm.data.toList) (.lit (.int .i64 b))) (fun q => if q = nm.data.toList then true else K q) ∧ KpS w [h, m] w' := by
  have hkey : keyOf Tryz.prog 9 (.string nm) = some (.string nm.data.toList) := Go.WideMaps.keyOf_string_mk und9z (by have := hsz.out; unfold maxLen; omega)
  haveI nhm : NeN h m := ⟨by
    obtain ⟨es, c, hmm⟩ := hm.heap
    rintro rfl
    rw [hh.out] at hmm
    cases hmm⟩
  obtain ⟨ii, hii⟩ : ∃ ii, ii = K nm.data.toList := ⟨_, rfl⟩
  rw [← hii] at hroom
  have hII := hid hii
  clear hii
  go_enter_defers Tryz.func19, Tryz.ntmps19
  go_wp2_with (first | (go_at_call 24; (with_reducible refine Calls.mono (hKnownF (s := nm) hsz.out (m := m) (h := h)) ?_); rintro e wk ⟨rfl, hk0⟩; rw [if_pos hfit.out]; have ck : wk.cell? ⟨h, 1, none⟩ = some (.int .i32 0) := (inferInstance : BkC wk h _ _).out.cell rfl; have ck3 : wk.cell? ⟨h, 3, none⟩ = some (.map (some m)) := (inferInstance : BkC wk h _ _).out.cell rfl; have fk := (inferInstance : BkC wk h _ _).out.free 1; have hm1 : Hid (Mk wk m n D K) := hid (hm.below Gr.out)) | (go_at_call 25; (with_reducible refine Calls.mono (Go.MuLone.lock_free Tryz.muLib ⟨h, 1, none⟩ wk ck fk) ?_); rintro e wl ⟨rfl, rfl⟩))
  go_loopw [10, 36] (fun s10 s36 wx => s10 = .slice none 0 0 ∧ s36 = .int .i64 0 ∧ (wk.setCell ⟨h, 1, none⟩ (.int .i32 1)) = wx) (fun _ _ _ => 0)
  case atStart => exact ⟨rfl, rfl, rfl⟩
  case round =>
    obtain ⟨rfl, rfl, rfl⟩ := hrel
    cases ii
    · have hlt : Maps.size D < 64 := hroom.resolve_left (by simp)
      have hge : ¬ ((64 : Int) ≤ (Maps.size D : Int)) := by omega
      have hge2 : ¬ ((Maps.size D : Int) ≥ 64) := by omega
      go_wp2_with (first | (go_at_call 20; (with_reducible refine Calls.mono (hcl.out _ GS.out) ?_); rintro e wp ⟨a, l, c, rfl, hkp⟩; have hm3 : Hid (Mk (wp.alloc (.cells #[.slice a l c] 29)) m n D K) := hid ((hm1.out.lock (inferInstance : BkC wk h _ 51).out 1 (.int .i32 1)).below Gr.out)) | (at_lookup; refine wpList_lookup_own_ok _ rfl _ _ 49 rfl 9 79 keyed9 und49z Rp (zero79 _) (.lit (.int .i64 (-1))) [] rfl m n D rfl hm3.out.own _ _ rfl hkey ?_; intro vv ps hv; clear hv; rw [hm3.out.has, ← hII.out]) | (at_mapUpdate; refine wpList_mapUpdate_in _ rfl _ _ _ 49 rfl 9 79 keyed9 und49z Rp m n D rfl hm3.out.own (by have := hn.out; unfold maxLen; omega) _ _ _ rfl rfl hkey _ [] rfl ?_; intro w1 ho1 ht1; haveI hk1 : KpS (wp.alloc (.cells #[.slice a l c] 29)) [m] w1 := ⟨turned_keeps ht1⟩))
      rw [hm3.out.own.len und49z 3]
      go_wp2_with (first | (at_mapUpdate; refine wpList_mapUpdate_in _ rfl _ _ _ 49 rfl 9 79 keyed9 und49z Rp m n D rfl hm3.out.own (by have := hn.out; unfold maxLen; omega) _ _ _ rfl rfl hkey _ [] rfl ?_; intro w1 ho1 ht1; haveI hk1 : KpS (wp.alloc (.cells #[.slice a l c] 29)) [m] w1 := ⟨turned_keeps ht1⟩))
      refine leaves_cons (f := 26) (args := #[.pointer (some ⟨h, 1, none⟩)]) (by simp) (by simp [go_sem]) ?_
      refine (Go.MuLone.unlock_deferred Tryz.muLib ⟨h, 1, none⟩ .returning _ ?_ ?_).mono ?_
      · exact (inferInstance : BkC _ h _ 51).out.cell rfl
      · exact (inferInstance : BkC _ h _ 51).out.free 1
      rintro e u' w'' ⟨rfl, rfl, rfl⟩
      refine ⟨_, results_tmp rfl _ _ _, rfl, wp.heap.size, inferInstance, (hm3.out.put ho1).lock (inferInstance : BkC w1 h _ 51).out 1 (.int .i32 0), ⟨GS.out⟩⟩
    · go_wp2_with (first | (go_at_call 20; (with_reducible refine Calls.mono (hcl.out _ GS.out) ?_); rintro e wp ⟨a, l, c, rfl, hkp⟩; have hm3 : Hid (Mk (wp.alloc (.cells #[.slice a l c] 29)) m n D K) := hid ((hm1.out.lock (inferInstance : BkC wk h _ 51).out 1 (.int .i32 1)).below Gr.out)) | (at_lookup; refine wpList_lookup_own_ok _ rfl _ _ 49 rfl 9 79 keyed9 und49z Rp (zero79 _) (.lit (.int .i64 (-1))) [] rfl m n D rfl hm3.out.own _ _ rfl hkey ?_; intro vv ps hv; clear hv; rw [hm3.out.has, ← hII.out]) | (at_mapUpdate; refine wpList_mapUpdate_in _ rfl _ _ _ 49 rfl 9 79 keyed9 und49z Rp m n D rfl hm3.out.own (by have := hn.out; unfold maxLen; omega) _ _ _ rfl rfl hkey _ [] rfl ?_; intro w1 ho1 ht1; haveI hk1 : KpS (wp.alloc (.cells #[.slice a l c] 29)) [m] w1 := ⟨turned_keeps ht1⟩))
      refine leaves_cons (f := 26) (args := #[.pointer (some ⟨h, 1, none⟩)]) (by simp) (by simp [go_sem]) ?_
      refine (Go.MuLone.unlock_deferred Tryz.muLib ⟨h, 1, none⟩ .returning _ ?_ ?_).mono ?_
      · exact (inferInstance : BkC _ h _ 51).out.cell rfl
      · exact (inferInstance : BkC _ h _ 51).out.free 1
      rintro e u' w'' ⟨rfl, rfl, rfl⟩
      refine ⟨_, results_tmp rfl _ _ _, rfl, wp.heap.size, inferInstance, (hm3.out.put ho1).lock (inferInstance : BkC w1 h _ 51).out 1 (.int .i32 0), ⟨GS.out⟩⟩
set_option synthInstance.maxHeartbeats 2000000 in
set_option synthInstance.maxSize 100000 in
set_option maxRecDepth 100000 in
set_option maxHeartbeats 16000000 in
theorem hChangeF {w : World} {h m n p : Nat} {nm : ByteArray} {D : DataW Unit} {K : List UInt8 → Bool} (hsz : Hid (nm.size ≤ 70000)) (hfit : Hid (fitL nm.data.toList = true)) [hh : BkC w h [.bool true, .int .i32 0, .int .u32 0, .map (some m)] 51] (hm : Mk w m n D K) (hn : Hid (n < 1000000)) (hnew : K nm.data.toList = false) (hfull : 64 ≤ Maps.size D) (hcl : Hid (∀ W : World, Keeps w.heap.size [h] w W → Calls Tryz.prog 20 #[.slice none 0 0, .pointer (some ⟨p, 0, none⟩)] W fun e w' => ∃ a l c, e = .returned (.tuple #[.agg #[.slice a l c], .int .i64 0]) ∧ Kp0 W w')) : Calls Tryz.prog 19 #[.pointer (some ⟨h, 0, none⟩), .string nm, .slice none 0 0, .func (.func 20) #[] #[.pointer (some ⟨p, 0, none⟩)]] w fun e w' => e = .returned (.int .i64 4) ∧ Kp0 w w' := by
  have hkey : keyOf Tryz.prog 9 (.string nm) = some (.string nm.data.toList) := Go.WideMaps.keyOf_string_mk und9z (by have := hsz.out; unfold maxLen; omega)
  haveI nhm : NeN h m := ⟨by
    obtain ⟨es, c, hmm⟩ := hm.heap
    rintro rfl
    rw [hh.out] at hmm
    cases hmm⟩
  have hII : Hid (false = K nm.data.toList) := hid hnew.symm
  have hge : ((64 : Int) ≤ (Maps.size D : Int)) := by omega
  clear hnew
  go_enter_defers Tryz.func19, Tryz.ntmps19
  go_wp2_with (first | (go_at_call 24; (with_reducible refine Calls.mono (hKnownF (s := nm) hsz.out (m := m) (h := h)) ?_); rintro e wk ⟨rfl, hk0⟩; rw [if_pos hfit.out]; have ck : wk.cell? ⟨h, 1, none⟩ = some (.int .i32 0) := (inferInstance : BkC wk h _ _).out.cell rfl; have ck3 : wk.cell? ⟨h, 3, none⟩ = some (.map (some m)) := (inferInstance : BkC wk h _ _).out.cell rfl; have fk := (inferInstance : BkC wk h _ _).out.free 1; have hm1 : Hid (Mk wk m n D K) := hid (hm.below Gr.out)) | (go_at_call 25; (with_reducible refine Calls.mono (Go.MuLone.lock_free Tryz.muLib ⟨h, 1, none⟩ wk ck fk) ?_); rintro e wl ⟨rfl, rfl⟩))
  go_loopw [10, 36] (fun s10 s36 wx => s10 = .slice none 0 0 ∧ s36 = .int .i64 0 ∧ (wk.setCell ⟨h, 1, none⟩ (.int .i32 1)) = wx) (fun _ _ _ => 0)
  case atStart => exact ⟨rfl, rfl, rfl⟩
  case round =>
    obtain ⟨rfl, rfl, rfl⟩ := hrel
    focus
      go_wp2_with (first | (go_at_call 20; (with_reducible refine Calls.mono (hcl.out _ GS.out) ?_); rintro e wp ⟨a, l, c, rfl, hkp⟩; have hm3 : Hid (Mk (wp.alloc (.cells #[.slice a l c] 29)) m n D K) := hid ((hm1.out.lock (inferInstance : BkC wk h _ 51).out 1 (.int .i32 1)).below Gr.out)) | (at_lookup; refine wpList_lookup_own_ok _ rfl _ _ 49 rfl 9 79 keyed9 und49z Rp (zero79 _) (.lit (.int .i64 (-1))) [] rfl m n D rfl hm3.out.own _ _ rfl hkey ?_; intro vv ps hv; clear hv; rw [hm3.out.has, ← hII.out]))
      rw [hm3.out.own.len und49z 3]
      go_wp2_with fail
      refine leaves_cons (f := 26) (args := #[.pointer (some ⟨h, 1, none⟩)]) (by simp) (by simp [go_sem]) ?_
      refine (Go.MuLone.unlock_deferred Tryz.muLib ⟨h, 1, none⟩ .returning _ ?_ ?_).mono ?_
      · exact (inferInstance : BkC _ h _ 51).out.cell rfl
      · exact (inferInstance : BkC _ h _ 51).out.free 1
      rintro e u' w'' ⟨rfl, rfl, rfl⟩
      exact ⟨_, results_tmp rfl _ _ _, rfl, ⟨keeps_same (h := h) (L := [.bool true, .int .i32 0, .int .u32 0, .map (some m)]) (T := 51) GS.out hh.out (inferInstance : BkC _ h _ 51).out⟩⟩
end
section
open Go.RowKit
open Go.Maps Go.ChangeMaps
theorem Mk.del {w w1 : World} {m n : Nat} {D : DataW Unit} {K : List UInt8 → Bool} (h : Mk w m n D K) {k : List UInt8}
    (ho : w1.ownsMap Tryz.prog 9 Rp m n (D.del (.string k))) : Mk w1 m n (D.del (.string k)) (fun q => if q = k then false else K q) := by
  refine ⟨ho, fun q => ?_⟩
  by_cases e : q = k
  · subst e
    rw [has_del_same]
    simp
  · rw [has_del_other (by simpa using e), h.has, if_neg e]
set_option synthInstance.maxHeartbeats 2000000 in
set_option synthInstance.maxSize 100000 in
set_option maxRecDepth 100000 in
set_option maxHeartbeats 16000000 in
theorem hDrop0 {w : World} {h m n : Nat} {nm : ByteArray} {D : DataW Unit} {K : List UInt8 → Bool} (hsz : Hid (nm.size ≤ 70000)) (hfit : Hid (fitL nm.data.toList = true)) [hh : BkC w h [.bool true, .int .i32 0, .int .u32 0, .map (some m)] 51] (hm : Mk w m n D K) (hK : Hid (K nm.data.toList = true)) : Calls Tryz.prog 15 #[.pointer (some ⟨h, 0, none⟩), .string nm] w fun e w' => e = .returned (.int .i64 0) ∧ BkC w' h [.bool true, .int .i32 0, .int .u32 0, .map (some m)] 51 ∧ Mk w' m n (D.del (.string nm.data.toList)) (fun q => if q = nm.data.toList then false else K q) ∧ KpS w [h, m] w' := by
  have hkey : keyOf Tryz.prog 9 (.string nm) = some (.string nm.data.toList) := Go.WideMaps.keyOf_string_mk und9z (by have := hsz.out; unfold maxLen; omega)
  haveI nhm : NeN h m := ⟨by
    obtain ⟨es, c, hmm⟩ := hm.heap
    rintro rfl
    rw [hh.out] at hmm
    cases hmm⟩
  go_enter_defers Tryz.func15, Tryz.ntmps15
  go_wp2_with (first | (go_at_call 24; (with_reducible refine Calls.mono (hKnownB (s := nm) hsz.out (m := m) (h := h)) ?_); rintro e wk ⟨rfl, hk0⟩; rw [if_pos hfit.out]; have ck : wk.cell? ⟨h, 1, none⟩ = some (.int .i32 0) := (inferInstance : BkC wk h _ _).out.cell rfl; have ck3 : wk.cell? ⟨h, 3, none⟩ = some (.map (some m)) := (inferInstance : BkC wk h _ _).out.cell rfl; have fk := (inferInstance : BkC wk h _ _).out.free 1; have hm1 : Hid (Mk wk m n D K) := hid (hm.below Gr.out); have hm2 : Hid (Mk (wk.setCell ⟨h, 1, none⟩ (.int .i32 1)) m n D K) := hid (hm1.out.lock (inferInstance : BkC wk h _ 51).out 1 (.int .i32 1))) | (go_at_call 25; (with_reducible refine Calls.mono (Go.MuLone.lock_free Tryz.muLib ⟨h, 1, none⟩ wk ck fk) ?_); rintro e wl ⟨rfl, rfl⟩) | (at_lookup; refine wpList_lookup_own_ok _ rfl _ _ 49 rfl 9 79 keyed9 und49z Rp (zero79 _) (.lit (.int .i64 (-1))) [] rfl m n D rfl hm2.out.own _ _ rfl hkey ?_; intro vv ps hv; clear hv; rw [hm2.out.has, hK.out]) | (at_delete; refine wpList_delete_own _ rfl _ _ 49 9 rfl 79 keyed9 und49z Rp m n D rfl hm2.out.own _ _ rfl hkey ?_; intro w1 ho1 ht1; haveI hk1 : KpS (wk.setCell ⟨h, 1, none⟩ (.int .i32 1)) [m] w1 := ⟨turned_keeps ht1⟩))
  refine leaves_cons (f := 26) (args := #[.pointer (some ⟨h, 1, none⟩)]) (by simp) (by simp [go_sem]) ?_
  refine (Go.MuLone.unlock_deferred Tryz.muLib ⟨h, 1, none⟩ .returning _ ?_ ?_).mono ?_
  · exact (inferInstance : BkC _ h _ 51).out.cell rfl
  · exact (inferInstance : BkC _ h _ 51).out.free 1
  rintro e u' w'' ⟨rfl, rfl, rfl⟩
  refine ⟨_, results_tmp rfl _ _ _, rfl, inferInstance, (hm2.out.del ho1).lock (inferInstance : BkC w1 h _ 51).out 1 (.int .i32 0), ⟨GS.out⟩⟩
set_option synthInstance.maxHeartbeats 2000000 in
set_option synthInstance.maxSize 100000 in
set_option maxRecDepth 100000 in
set_option maxHeartbeats 16000000 in
theorem hDrop9 {w : World} {h m n : Nat} {nm : ByteArray} {D : DataW Unit} {K : List UInt8 → Bool} (hsz : Hid (nm.size ≤ 70000)) (hfit : Hid (fitL nm.data.toList = true)) [hh : BkC w h [.bool true, .int .i32 0, .int .u32 0, .map (some m)] 51] (hm : Mk w m n D K) (hK : Hid (K nm.data.toList = false)) : Calls Tryz.prog 15 #[.pointer (some ⟨h, 0, none⟩), .string nm] w fun e w' => e = .returned (.int .i64 9) ∧ Kp0 w w' := by
  have hkey : keyOf Tryz.prog 9 (.string nm) = some (.string nm.data.toList) := Go.WideMaps.keyOf_string_mk und9z (by have := hsz.out; unfold maxLen; omega)
  haveI nhm : NeN h m := ⟨by
    obtain ⟨es, c, hmm⟩ := hm.heap
    rintro rfl
    rw [hh.out] at hmm
    cases hmm⟩
  go_enter_defers Tryz.func15, Tryz.ntmps15
  go_wp2_with (first | (go_at_call 24; (with_reducible refine Calls.mono (hKnownB (s := nm) hsz.out (m := m) (h := h)) ?_); rintro e wk ⟨rfl, hk0⟩; rw [if_pos hfit.out]; have ck : wk.cell? ⟨h, 1, none⟩ = some (.int .i32 0) := (inferInstance : BkC wk h _ _).out.cell rfl; have ck3 : wk.cell? ⟨h, 3, none⟩ = some (.map (some m)) := (inferInstance : BkC wk h _ _).out.cell rfl; have fk := (inferInstance : BkC wk h _ _).out.free 1; have hm1 : Hid (Mk wk m n D K) := hid (hm.below Gr.out); have hm2 : Hid (Mk (wk.setCell ⟨h, 1, none⟩ (.int .i32 1)) m n D K) := hid (hm1.out.lock (inferInstance : BkC wk h _ 51).out 1 (.int .i32 1))) | (go_at_call 25; (with_reducible refine Calls.mono (Go.MuLone.lock_free Tryz.muLib ⟨h, 1, none⟩ wk ck fk) ?_); rintro e wl ⟨rfl, rfl⟩) | (at_lookup; refine wpList_lookup_own_ok _ rfl _ _ 49 rfl 9 79 keyed9 und49z Rp (zero79 _) (.lit (.int .i64 (-1))) [] rfl m n D rfl hm2.out.own _ _ rfl hkey ?_; intro vv ps hv; clear hv; rw [hm2.out.has, hK.out]))
  refine leaves_cons (f := 26) (args := #[.pointer (some ⟨h, 1, none⟩)]) (by simp) (by simp [go_sem]) ?_
  refine (Go.MuLone.unlock_deferred Tryz.muLib ⟨h, 1, none⟩ .returning _ ?_ ?_).mono ?_
  · exact (inferInstance : BkC _ h _ 51).out.cell rfl
  · exact (inferInstance : BkC _ h _ 51).out.free 1
  rintro e u' w'' ⟨rfl, rfl, rfl⟩
  exact ⟨_, results_tmp rfl _ _ _, rfl, ⟨keeps_same (h := h) (L := [.bool true, .int .i32 0, .int .u32 0, .map (some m)]) (T := 51) GS.out hh.out (inferInstance : BkC _ h _ 51).out⟩⟩
end
section
open Go.RowKit
theorem ox_cells {B : Nat} {w : World} {v : Value} {l : List ByteArray} (h : Ox 9 EStr B w v l) (h0 : 0 < l.length) : ∃ g cap, v = .slice (some ⟨g, 0, none⟩) l.length cap ∧ ∀ (i : Nat) (s : ByteArray), l[i]? = some s → w.cell? ⟨g, i, none⟩ = some (.string s) := by
  obtain ⟨xs, ⟨h1, h2⟩, h3⟩ := h
  rcases h2 with ⟨-, hl⟩ | ⟨g, cap, cur, rfl, hb, hg, hc, hm, hs, ht⟩
  · omega
  · refine ⟨g, cap, rfl, fun i s hi => ?_⟩
    obtain ⟨u, q1, q2⟩ := h3 i s hi
    rw [cell_of_block hg, ← Array.getElem?_toList]
    rw [← ht, List.getElem?_take] at q1
    split at q1
    · rw [q1, q2]
    · cases q1
set_option synthInstance.maxHeartbeats 2000000 in
set_option synthInstance.maxSize 100000 in
set_option maxRecDepth 100000 in
set_option maxHeartbeats 16000000 in
theorem concat11 {w : World} {g h c h2 c2 : Nat} {s s2 : ByteArray} [hs : BkC w h [.string s] 9] [hs2 : BkC w h2 [.string s2] 9] [hb : BkC w g [.slice (some ⟨h, 0, none⟩) 1 c, .slice (some ⟨h2, 0, none⟩) 1 c2] 39] (hc : 1 ≤ c) (hc2 : 1 ≤ c2) : Calls Tryz.prog 49 #[.slice (some ⟨g, 0, none⟩) 2 2] w fun e w' => ∃ v, e = .returned v ∧ Ox 9 EStr w.heap.size w' v [s, s2] ∧ Below w.heap.size w w' := by
  have c0 := hb.out.cell (i := 0) rfl
  have c1 := hb.out.cell (i := 1) rfl
  have HR : Hid (Rw 9 EStr w (.slice (some ⟨h, 0, none⟩) 1 c) [s]) := hid ⟨_, _, rfl, hc, fun _ => ⟨h, 0, _, rfl, hs.out, fun i x hx => by
    rcases i with _ | i
    · exact ⟨_, rfl, by simp at hx; rw [← hx]; rfl⟩
    · simp at hx⟩⟩
  have HR2 : Hid (Rw 9 EStr w (.slice (some ⟨h2, 0, none⟩) 1 c2) [s2]) := hid ⟨_, _, rfl, hc2, fun _ => ⟨h2, 0, _, rfl, hs2.out, fun i x hx => by
    rcases i with _ | i
    · exact ⟨_, rfl, by simp at hx; rw [← hx]; rfl⟩
    · simp at hx⟩⟩
  obtain ⟨ti, hti, htz, hts, htb⟩ := info_parts info9z
  clear hc hc2
  go_enter Tryz.func49, Tryz.ntmps49
  go_wp2_with fail
  go_loopw [3, 11] (fun s3 s11 wx => ∃ j m : Int, s11 = .int .i64 j ∧ (j = 0 ∧ m = 0 ∨ j = 1 ∧ m = 1 ∨ j = 2 ∧ m = 2) ∧ s3 = .int .i64 m ∧ w = wx) (fun _ s11 _ => 2 - (intOf s11).toNat)
  case atStart => exact ⟨0, 0, rfl, .inl ⟨rfl, rfl⟩, rfl, rfl⟩
  case round =>
    obtain ⟨j, m, rfl, hj, rfl, rfl⟩ := hrel
    rcases hj with ⟨rfl, rfl⟩ | ⟨rfl, rfl⟩ | ⟨rfl, rfl⟩
    · go_wp2_with fail
      go_round
      case rel => exact ⟨1, 1, by first | rfl | go_num, .inr (.inl ⟨rfl, rfl⟩), by first | rfl | go_num | trivial, by first | rfl | trivial⟩
      case measure => simp [intOf]
    · go_wp2_with fail
      go_round
      case rel => exact ⟨2, 2, by first | rfl | go_num, .inr (.inr ⟨rfl, rfl⟩), by first | rfl | go_num | trivial, by first | rfl | trivial⟩
      case measure => simp [intOf]
    · go_wp2_with (go_at_call 81; (with_reducible refine Calls.mono (hGrow (n := 2) (by decide) (by decide)) ?_); rintro e wc ⟨gv, rfl, ho, kb⟩)
      go_loopw [6, 27] (fun s6 s27 wx => ∃ j : Int, s27 = .int .i64 j ∧ (j = 0 ∧ Ox 9 EStr w.heap.size wx s6 [] ∨ j = 1 ∧ Ox 9 EStr w.heap.size wx s6 [s] ∨ j = 2 ∧ Ox 9 EStr w.heap.size wx s6 [s, s2]) ∧ Below w.heap.size w wx) (fun _ s27 _ => 2 - (intOf s27).toNat)
      case atStart => exact ⟨0, rfl, .inl ⟨rfl, ho⟩, kb⟩
      case round =>
        clear ho kb
        obtain ⟨j, rfl, hj, kb⟩ := hrel
        haveI kk : Kp0 w wr := ⟨kb⟩
        rcases hj with ⟨rfl, ho⟩ | ⟨rfl, ho⟩ | ⟨rfl, ho⟩
        · go_wp2_with (at_builtin; go_loud (refine app_row (eok_str 9) rfl _ _ 39 rfl w.heap.size ti _ 16 und39z hti htz hts htb rfl (by decide) rfl ho rfl (HR.out.below (eok_str 9) kb) (show (0 : Nat) < 1 by decide) (show (0 : Nat) + 1 ≤ 1048576 by decide) kb.size ?_; intro g' cap' n' wa hn' ho' hg' hbl hkE; obtain rfl : n' = 1 := hn'; have kb' := hbl w (Nat.le_refl _) kb; clear hkE hbl))
          go_round
          case rel => exact ⟨1, by first | rfl | go_num, .inr (.inl ⟨rfl, ho'⟩), kb'⟩
          case measure => simp [intOf]
        · go_wp2_with (at_builtin; go_loud (refine app_row (eok_str 9) rfl _ _ 39 rfl w.heap.size ti _ 16 und39z hti htz hts htb rfl (by decide) rfl ho rfl (HR2.out.below (eok_str 9) kb) (show (0 : Nat) < 1 by decide) (show (1 : Nat) + 1 ≤ 1048576 by decide) kb.size ?_; intro g' cap' n' wa hn' ho' hg' hbl hkE; obtain rfl : n' = 2 := hn'; have kb' := hbl w (Nat.le_refl _) kb; clear hkE hbl))
          go_round
          case rel => exact ⟨2, by first | rfl | go_num, .inr (.inr ⟨rfl, ho'⟩), kb'⟩
          case measure => simp [intOf]
        · go_wp2_with fail
          go_ret
          exact ⟨_, rfl, ho, kb⟩
set_option synthInstance.maxHeartbeats 2000000 in
set_option synthInstance.maxSize 100000 in
set_option maxRecDepth 100000 in
set_option maxHeartbeats 16000000 in
theorem concat12 {w : World} {g h c h2 c2 : Nat} {s s2 s3 : ByteArray} [hs : BkC w h [.string s] 9] [hs2 : BkC w h2 [.string s2, .string s3] 9] [hb : BkC w g [.slice (some ⟨h, 0, none⟩) 1 c, .slice (some ⟨h2, 0, none⟩) 2 c2] 39] (hc : 1 ≤ c) (hc2 : 2 ≤ c2) : Calls Tryz.prog 49 #[.slice (some ⟨g, 0, none⟩) 2 2] w fun e w' => ∃ v, e = .returned v ∧ Ox 9 EStr w.heap.size w' v [s, s2, s3] ∧ Below w.heap.size w w' := by
  have c0 := hb.out.cell (i := 0) rfl
  have c1 := hb.out.cell (i := 1) rfl
  have HR : Hid (Rw 9 EStr w (.slice (some ⟨h, 0, none⟩) 1 c) [s]) := hid ⟨_, _, rfl, hc, fun _ => ⟨h, 0, _, rfl, hs.out, fun i x hx => by
    rcases i with _ | i
    · exact ⟨_, rfl, by simp at hx; rw [← hx]; rfl⟩
    · simp at hx⟩⟩
  have HR2 : Hid (Rw 9 EStr w (.slice (some ⟨h2, 0, none⟩) 2 c2) [s2, s3]) := hid ⟨_, _, rfl, hc2, fun _ => ⟨h2, 0, _, rfl, hs2.out, fun i x hx => by
    rcases i with _ | _ | i
    · exact ⟨_, rfl, by simp at hx; rw [← hx]; rfl⟩
    · exact ⟨_, rfl, by simp at hx; rw [← hx]; rfl⟩
    · simp at hx⟩⟩
  obtain ⟨ti, hti, htz, hts, htb⟩ := info_parts info9z
  clear hc hc2
  go_enter Tryz.func49, Tryz.ntmps49
  go_wp2_with fail
  go_loopw [3, 11] (fun s3 s11 wx => ∃ j m : Int, s11 = .int .i64 j ∧ (j = 0 ∧ m = 0 ∨ j = 1 ∧ m = 1 ∨ j = 2 ∧ m = 3) ∧ s3 = .int .i64 m ∧ w = wx) (fun _ s11 _ => 2 - (intOf s11).toNat)
  case atStart => exact ⟨0, 0, rfl, .inl ⟨rfl, rfl⟩, rfl, rfl⟩
  case round =>
    obtain ⟨j, m, rfl, hj, rfl, rfl⟩ := hrel
    rcases hj with ⟨rfl, rfl⟩ | ⟨rfl, rfl⟩ | ⟨rfl, rfl⟩
    · go_wp2_with fail
      go_round
      case rel => exact ⟨1, 1, by first | rfl | go_num, .inr (.inl ⟨rfl, rfl⟩), by first | rfl | go_num | trivial, by first | rfl | trivial⟩
      case measure => simp [intOf]
    · go_wp2_with fail
      go_round
      case rel => exact ⟨2, 3, by first | rfl | go_num, .inr (.inr ⟨rfl, rfl⟩), by first | rfl | go_num | trivial, by first | rfl | trivial⟩
      case measure => simp [intOf]
    · go_wp2_with (go_at_call 81; (with_reducible refine Calls.mono (hGrow (n := 3) (by decide) (by decide)) ?_); rintro e wc ⟨gv, rfl, ho, kb⟩)
      go_loopw [6, 27] (fun s6 s27 wx => ∃ j : Int, s27 = .int .i64 j ∧ (j = 0 ∧ Ox 9 EStr w.heap.size wx s6 [] ∨ j = 1 ∧ Ox 9 EStr w.heap.size wx s6 [s] ∨ j = 2 ∧ Ox 9 EStr w.heap.size wx s6 [s, s2, s3]) ∧ Below w.heap.size w wx) (fun _ s27 _ => 2 - (intOf s27).toNat)
      case atStart => exact ⟨0, rfl, .inl ⟨rfl, ho⟩, kb⟩
      case round =>
        clear ho kb
        obtain ⟨j, rfl, hj, kb⟩ := hrel
        haveI kk : Kp0 w wr := ⟨kb⟩
        rcases hj with ⟨rfl, ho⟩ | ⟨rfl, ho⟩ | ⟨rfl, ho⟩
        · go_wp2_with (at_builtin; go_loud (refine app_row (eok_str 9) rfl _ _ 39 rfl w.heap.size ti _ 16 und39z hti htz hts htb rfl (by decide) rfl ho rfl (HR.out.below (eok_str 9) kb) (show (0 : Nat) < 1 by decide) (show (0 : Nat) + 1 ≤ 1048576 by decide) kb.size ?_; intro g' cap' n' wa hn' ho' hg' hbl hkE; obtain rfl : n' = 1 := hn'; have kb' := hbl w (Nat.le_refl _) kb; clear hkE hbl))
          go_round
          case rel => exact ⟨1, by first | rfl | go_num, .inr (.inl ⟨rfl, ho'⟩), kb'⟩
          case measure => simp [intOf]
        · go_wp2_with (at_builtin; go_loud (refine app_row (eok_str 9) rfl _ _ 39 rfl w.heap.size ti _ 16 und39z hti htz hts htb rfl (by decide) rfl ho rfl (HR2.out.below (eok_str 9) kb) (show (0 : Nat) < 2 by decide) (show (1 : Nat) + 2 ≤ 1048576 by decide) kb.size ?_; intro g' cap' n' wa hn' ho' hg' hbl hkE; obtain rfl : n' = 3 := hn'; have kb' := hbl w (Nat.le_refl _) kb; clear hkE hbl))
          go_round
          case rel => exact ⟨2, by first | rfl | go_num, .inr (.inr ⟨rfl, ho'⟩), kb'⟩
          case measure => simp [intOf]
        · go_wp2_with fail
          go_ret
          exact ⟨_, rfl, ho, kb⟩
set_option synthInstance.maxHeartbeats 2000000 in
set_option synthInstance.maxSize 100000 in
set_option maxRecDepth 100000 in
set_option maxHeartbeats 16000000 in
theorem hKnownA1 {w : World} {h m g g2 : Nat} {s s2 : ByteArray} (hz0 : s.size ≤ 70000) (hf0 : fitL s.data.toList = true) (hz1 : s2.size ≤ 70000) (hf1 : fitL s2.data.toList = true) [hh : BkC w h [.bool true, .int .i32 0, .int .u32 0, .map (some m)] 51] [hs : BkC w g [.string s] 9] [hs2 : BkC w g2 [.string s2] 9] : Calls Tryz.prog 24 #[.pointer (some ⟨h, 0, none⟩), .slice (some ⟨g, 0, none⟩) 1 1, .slice (some ⟨g2, 0, none⟩) 1 1] w fun e w' => e = .returned (.int .i64 0) ∧ Kp0 w w' := by
  have c0 := hh.out.cell (i := 0) rfl
  have FI0 := hid (fun W : World => (hf0 ▸ hFit (w := W) hz0 : _))
  have FI1 := hid (fun W : World => (hf1 ▸ hFit (w := W) hz1 : _))
  clear hz0 hf0 hz1 hf1
  go_enter Tryz.func24, Tryz.ntmps24
  go_wp2_with (go_at_call 49; (with_reducible refine Calls.mono (concat11 (s := s) (Nat.le_refl 1) (Nat.le_refl 1)) ?_); rintro e wc ⟨v, rfl, ho, kb⟩; obtain ⟨g2, cap2, rfl, hcl⟩ := ox_cells ho (Nat.succ_pos _); have q0 := hcl 0 _ rfl; have q1 := hcl 1 _ rfl; have kb0 := below_low kb (show w.heap.size ≤ _ by simp); clear ho hcl)
  go_loopw [23] (fun s23 wx => ∃ j : Int, s23 = .int .i64 j ∧ (j = 0 ∨ j = 1 ∨ j = 2) ∧ wc = wx) (fun s23 _ => 2 - (intOf s23).toNat)
  case atStart => exact ⟨0, rfl, .inl rfl, rfl⟩
  case round =>
    obtain ⟨j, rfl, hj, rfl⟩ := hrel
    have hKK : Kp0 w wc := ⟨Below.trans Gr.out kb0⟩
    rcases hj with rfl | rfl | rfl
    · go_wp2_with (go_at_call 50; (with_reducible refine Calls.mono (FI0.out _) ?_); rintro e wd ⟨rfl, hw⟩; obtain rfl := hw.symm)
      go_round
      case rel => exact ⟨1, by first | rfl | go_num, .inr (.inl rfl), by first | rfl | trivial⟩
      case measure => simp [intOf]
    · go_wp2_with (go_at_call 50; (with_reducible refine Calls.mono (FI1.out _) ?_); rintro e wd ⟨rfl, hw⟩; obtain rfl := hw.symm)
      go_round
      case rel => exact ⟨2, by first | rfl | go_num, .inr (.inr (rfl)), by first | rfl | trivial⟩
      case measure => simp [intOf]
    · go_wp2_with fail
      go_ret
      exact ⟨rfl, hKK⟩
set_option synthInstance.maxHeartbeats 2000000 in
set_option synthInstance.maxSize 100000 in
set_option maxRecDepth 100000 in
set_option maxHeartbeats 16000000 in
theorem hKnownX1 {w : World} {h m g g2 : Nat} {s s2 : ByteArray} (hsz : s.size ≤ 70000) (hf1 : fitL s.data.toList = false) [hh : BkC w h [.bool true, .int .i32 0, .int .u32 0, .map (some m)] 51] [hs : BkC w g [.string s] 9] [hs2 : BkC w g2 [.string s2] 9] : Calls Tryz.prog 24 #[.pointer (some ⟨h, 0, none⟩), .slice (some ⟨g, 0, none⟩) 1 1, .slice (some ⟨g2, 0, none⟩) 1 1] w fun e w' => e = .returned (.int .i64 310) ∧ Kp0 w w' := by
  have c0 := hh.out.cell (i := 0) rfl
  have FI := hid (fun W : World => (hf1 ▸ hFit (w := W) hsz : _))
  clear hsz hf1
  go_enter Tryz.func24, Tryz.ntmps24
  go_wp2_with (go_at_call 49; (with_reducible refine Calls.mono (concat11 (s := s) (Nat.le_refl 1) (Nat.le_refl 1)) ?_); rintro e wc ⟨v, rfl, ho, kb⟩; obtain ⟨g2, cap2, rfl, hcl⟩ := ox_cells ho (Nat.succ_pos _); have q0 := hcl 0 _ rfl; have q1 := hcl 1 _ rfl; have kb0 := below_low kb (show w.heap.size ≤ _ by simp); clear ho hcl)
  go_loopw [23] (fun s23 wx => s23 = .int .i64 0 ∧ wc = wx) (fun s23 _ => 0)
  case atStart => exact ⟨rfl, rfl⟩
  case round =>
    obtain ⟨rfl, rfl⟩ := hrel
    have hKK : Kp0 w wc := ⟨Below.trans Gr.out kb0⟩
    go_wp2_with (go_at_call 50; (with_reducible refine Calls.mono (FI.out _) ?_); rintro e wd ⟨rfl, hw⟩; obtain rfl := hw.symm)
    go_ret
    exact ⟨rfl, hKK⟩
set_option synthInstance.maxHeartbeats 2000000 in
set_option synthInstance.maxSize 100000 in
set_option maxRecDepth 100000 in
set_option maxHeartbeats 16000000 in
theorem hKnownA2 {w : World} {h m g g2 : Nat} {s s2 s3 : ByteArray} (hz0 : s.size ≤ 70000) (hf0 : fitL s.data.toList = true) (hz1 : s2.size ≤ 70000) (hf1 : fitL s2.data.toList = true) (hz2 : s3.size ≤ 70000) (hf2 : fitL s3.data.toList = true) [hh : BkC w h [.bool true, .int .i32 0, .int .u32 0, .map (some m)] 51] [hs : BkC w g [.string s] 9] [hs2 : BkC w g2 [.string s2, .string s3] 9] : Calls Tryz.prog 24 #[.pointer (some ⟨h, 0, none⟩), .slice (some ⟨g, 0, none⟩) 1 1, .slice (some ⟨g2, 0, none⟩) 2 2] w fun e w' => e = .returned (.int .i64 0) ∧ Kp0 w w' := by
  have c0 := hh.out.cell (i := 0) rfl
  have FI0 := hid (fun W : World => (hf0 ▸ hFit (w := W) hz0 : _))
  have FI1 := hid (fun W : World => (hf1 ▸ hFit (w := W) hz1 : _))
  have FI2 := hid (fun W : World => (hf2 ▸ hFit (w := W) hz2 : _))
  clear hz0 hf0 hz1 hf1 hz2 hf2
  go_enter Tryz.func24, Tryz.ntmps24
  go_wp2_with (go_at_call 49; (with_reducible refine Calls.mono (concat12 (s := s) (Nat.le_refl 1) (Nat.le_refl 2)) ?_); rintro e wc ⟨v, rfl, ho, kb⟩; obtain ⟨g2, cap2, rfl, hcl⟩ := ox_cells ho (Nat.succ_pos _); have q0 := hcl 0 _ rfl; have q1 := hcl 1 _ rfl; have q2 := hcl 2 _ rfl; have kb0 := below_low kb (show w.heap.size ≤ _ by simp); clear ho hcl)
  go_loopw [23] (fun s23 wx => ∃ j : Int, s23 = .int .i64 j ∧ (j = 0 ∨ j = 1 ∨ j = 2 ∨ j = 3) ∧ wc = wx) (fun s23 _ => 3 - (intOf s23).toNat)
  case atStart => exact ⟨0, rfl, .inl rfl, rfl⟩
  case round =>
    obtain ⟨j, rfl, hj, rfl⟩ := hrel
    have hKK : Kp0 w wc := ⟨Below.trans Gr.out kb0⟩
    rcases hj with rfl | rfl | rfl | rfl
    · go_wp2_with (go_at_call 50; (with_reducible refine Calls.mono (FI0.out _) ?_); rintro e wd ⟨rfl, hw⟩; obtain rfl := hw.symm)
      go_round
      case rel => exact ⟨1, by first | rfl | go_num, .inr (.inl rfl), by first | rfl | trivial⟩
      case measure => simp [intOf]
    · go_wp2_with (go_at_call 50; (with_reducible refine Calls.mono (FI1.out _) ?_); rintro e wd ⟨rfl, hw⟩; obtain rfl := hw.symm)
      go_round
      case rel => exact ⟨2, by first | rfl | go_num, .inr (.inr (.inl rfl)), by first | rfl | trivial⟩
      case measure => simp [intOf]
    · go_wp2_with (go_at_call 50; (with_reducible refine Calls.mono (FI2.out _) ?_); rintro e wd ⟨rfl, hw⟩; obtain rfl := hw.symm)
      go_round
      case rel => exact ⟨3, by first | rfl | go_num, .inr (.inr (.inr (rfl))), by first | rfl | trivial⟩
      case measure => simp [intOf]
    · go_wp2_with fail
      go_ret
      exact ⟨rfl, hKK⟩
set_option synthInstance.maxHeartbeats 2000000 in
set_option synthInstance.maxSize 100000 in
set_option maxRecDepth 100000 in
set_option maxHeartbeats 16000000 in
theorem hKnownX2 {w : World} {h m g g2 : Nat} {s s2 s3 : ByteArray} (hsz : s.size ≤ 70000) (hf1 : fitL s.data.toList = false) [hh : BkC w h [.bool true, .int .i32 0, .int .u32 0, .map (some m)] 51] [hs : BkC w g [.string s] 9] [hs2 : BkC w g2 [.string s2, .string s3] 9] : Calls Tryz.prog 24 #[.pointer (some ⟨h, 0, none⟩), .slice (some ⟨g, 0, none⟩) 1 1, .slice (some ⟨g2, 0, none⟩) 2 2] w fun e w' => e = .returned (.int .i64 310) ∧ Kp0 w w' := by
  have c0 := hh.out.cell (i := 0) rfl
  have FI := hid (fun W : World => (hf1 ▸ hFit (w := W) hsz : _))
  clear hsz hf1
  go_enter Tryz.func24, Tryz.ntmps24
  go_wp2_with (go_at_call 49; (with_reducible refine Calls.mono (concat12 (s := s) (Nat.le_refl 1) (Nat.le_refl 2)) ?_); rintro e wc ⟨v, rfl, ho, kb⟩; obtain ⟨g2, cap2, rfl, hcl⟩ := ox_cells ho (Nat.succ_pos _); have q0 := hcl 0 _ rfl; have q1 := hcl 1 _ rfl; have q2 := hcl 2 _ rfl; have kb0 := below_low kb (show w.heap.size ≤ _ by simp); clear ho hcl)
  go_loopw [23] (fun s23 wx => s23 = .int .i64 0 ∧ wc = wx) (fun s23 _ => 0)
  case atStart => exact ⟨rfl, rfl⟩
  case round =>
    obtain ⟨rfl, rfl⟩ := hrel
    have hKK : Kp0 w wc := ⟨Below.trans Gr.out kb0⟩
    go_wp2_with (go_at_call 50; (with_reducible refine Calls.mono (FI.out _) ?_); rintro e wd ⟨rfl, hw⟩; obtain rfl := hw.symm)
    go_ret
    exact ⟨rfl, hKK⟩
end
section
open Go.RowKit
open Go.Maps Go.ChangeMaps
/-- A value as it is. -/
def EV (_w : World) (u x : Value) : Prop := u = x ∧ u.oneCell' = true
theorem eok_ev (T : Nat) : EOk T EV := ⟨fun h _ => h, fun _ _ h => h, fun h => h.2⟩
theorem ox_none {T : Nat} {w : World} {B : Nat} {E : World → Value → Value → Prop} : Ox T E B w (.slice none 0 0) [] := ⟨[], ⟨rfl, .inl ⟨rfl, rfl⟩⟩, fun i x h => by simp at h⟩
theorem ev_one {w : World} {b : Nat} {v : Value} (hv : v.oneCell' = true) (h : Bk w b [v] 29) : Rw 29 EV w (.slice (some ⟨b, 0, none⟩) 1 1) [v] := ⟨_, _, rfl, Nat.le_refl _, fun _ => ⟨b, 0, _, rfl, h, fun i x hx => by
    rcases i with _ | i
    · exact ⟨_, rfl, by simp at hx; exact ⟨hx, hv⟩⟩
    · simp at hx⟩⟩
theorem oxv_cells {B : Nat} {w : World} {v : Value} {l : List Value} (h : Ox 29 EV B w v l) (h0 : 0 < l.length) : ∃ g cap L, v = .slice (some ⟨g, 0, none⟩) l.length cap ∧ Bk w g L 29 ∧ ∀ (i : Nat) (s : Value), l[i]? = some s → L[i]? = some s := by
  obtain ⟨xs, ⟨h1, h2⟩, h3⟩ := h
  rcases h2 with ⟨-, hl⟩ | ⟨g, cap, cur, rfl, hb, hg, hc, hm, hs, ht⟩
  · omega
  · refine ⟨g, cap, cur.toList, rfl, by unfold Bk; simpa using hg, fun i s hi => ?_⟩
    obtain ⟨u, q1, q2⟩ := h3 i s hi
    rw [← ht, List.getElem?_take] at q1
    split at q1
    · rw [q1, q2.1]
    · cases q1
set_option synthInstance.maxHeartbeats 2000000 in
set_option synthInstance.maxSize 100000 in
set_option maxRecDepth 100000 in
set_option maxHeartbeats 16000000 in
theorem hChangeBadR {w : World} {h m g2 : Nat} {nm s2 s3 : ByteArray} {f : Value} (hsz : Hid (nm.size ≤ 70000)) (hfit : Hid (fitL nm.data.toList = false)) [hh : BkC w h [.bool true, .int .i32 0, .int .u32 0, .map (some m)] 51] [hs2 : BkC w g2 [.string s2, .string s3] 9] : Calls Tryz.prog 19 #[.pointer (some ⟨h, 0, none⟩), .string nm, .slice (some ⟨g2, 0, none⟩) 2 2, f] w fun e w' => e = .returned (.int .i64 310) ∧ Kp0 w w' := by
  go_enter_defers Tryz.func19, Tryz.ntmps19
  go_wp2_with (go_at_call 24; (with_reducible refine Calls.mono (hKnownX2 (s := nm) hsz.out hfit.out (m := m) (h := h) (g2 := g2)) ?_); rintro e wk ⟨rfl, hk0⟩)
  exact ⟨_, results_tmp rfl _ _ _, rfl, ⟨Gr.out⟩⟩
set_option synthInstance.maxHeartbeats 2000000 in
set_option synthInstance.maxSize 100000 in
set_option maxRecDepth 100000 in
set_option maxHeartbeats 16000000 in
theorem hChangeG {w : World} {h m n g2 : Nat} {nm s2 : ByteArray} {f : Value} {D : DataW Unit} {K : List UInt8 → Bool} (hsz : Hid (nm.size ≤ 70000)) (hfit : Hid (fitL nm.data.toList = true)) (hsz2 : Hid (s2.size ≤ 70000)) (hfit2 : Hid (fitL s2.data.toList = true)) [hh : BkC w h [.bool true, .int .i32 0, .int .u32 0, .map (some m)] 51] [hs2 : BkC w g2 [.string s2] 9] (hm : Mk w m n D K) (hK : Hid (K s2.data.toList = false)) : Calls Tryz.prog 19 #[.pointer (some ⟨h, 0, none⟩), .string nm, .slice (some ⟨g2, 0, none⟩) 1 1, f] w fun e w' => e = .returned (.int .i64 9) ∧ Kp0 w w' := by
  have hkey : keyOf Tryz.prog 9 (.string nm) = some (.string nm.data.toList) := Go.WideMaps.keyOf_string_mk und9z (by have := hsz.out; unfold maxLen; omega)
  have hkey2 : keyOf Tryz.prog 9 (.string s2) = some (.string s2.data.toList) := Go.WideMaps.keyOf_string_mk und9z (by have := hsz2.out; unfold maxLen; omega)
  haveI nhm : NeN h m := ⟨by
    obtain ⟨es, c, hmm⟩ := hm.heap
    rintro rfl
    rw [hh.out] at hmm
    cases hmm⟩
  have c2 := hs2.out.cell (i := 0) rfl
  go_enter_defers Tryz.func19, Tryz.ntmps19
  go_wp2_with (first | (go_at_call 24; (with_reducible refine Calls.mono (hKnownA1 (s := nm) hsz.out hfit.out hsz2.out hfit2.out (m := m) (h := h) (g2 := g2)) ?_); rintro e wk ⟨rfl, hk0⟩; have ck : wk.cell? ⟨h, 1, none⟩ = some (.int .i32 0) := (inferInstance : BkC wk h _ _).out.cell rfl; have ck3 : wk.cell? ⟨h, 3, none⟩ = some (.map (some m)) := (inferInstance : BkC wk h _ _).out.cell rfl; have fk := (inferInstance : BkC wk h _ _).out.free 1; have hm1 : Hid (Mk wk m n D K) := hid (hm.below Gr.out); have hm2 : Hid (Mk (wk.setCell ⟨h, 1, none⟩ (.int .i32 1)) m n D K) := hid (hm1.out.lock (inferInstance : BkC wk h _ 51).out 1 (.int .i32 1))) | (go_at_call 25; (with_reducible refine Calls.mono (Go.MuLone.lock_free Tryz.muLib ⟨h, 1, none⟩ wk ck fk) ?_); rintro e wl ⟨rfl, rfl⟩))
  go_loopw [10, 36] (fun s10 s36 wx => s10 = .slice none 0 0 ∧ s36 = .int .i64 0 ∧ (wk.setCell ⟨h, 1, none⟩ (.int .i32 1)) = wx) (fun _ _ _ => 0)
  case atStart => exact ⟨rfl, rfl, rfl⟩
  case round =>
    obtain ⟨rfl, rfl, rfl⟩ := hrel
    focus
      go_wp2_with (at_lookup; refine wpList_lookup_own_ok _ rfl _ _ 49 rfl 9 79 keyed9 und49z Rp (zero79 _) (.lit (.int .i64 (-1))) [] rfl m n D rfl hm2.out.own _ _ rfl hkey2 ?_; intro vv ps hv; clear hv; rw [hm2.out.has, hK.out])
      refine leaves_cons (f := 26) (args := #[.pointer (some ⟨h, 1, none⟩)]) (by simp) (by simp [go_sem]) ?_
      refine (Go.MuLone.unlock_deferred Tryz.muLib ⟨h, 1, none⟩ .returning _ ?_ ?_).mono ?_
      · exact (inferInstance : BkC _ h _ 51).out.cell rfl
      · exact (inferInstance : BkC _ h _ 51).out.free 1
      rintro e u' w'' ⟨rfl, rfl, rfl⟩
      exact ⟨_, results_tmp rfl _ _ _, rfl, ⟨keeps_same (h := h) (L := [.bool true, .int .i32 0, .int .u32 0, .map (some m)]) (T := 51) GS.out hh.out (inferInstance : BkC _ h _ 51).out⟩⟩
end
section
open Go.RowKit
open Go.Maps Go.ChangeMaps
@[go_sem ↓] theorem idx0 (a b : Value) (W : World) : (Instr.index 138 (.agg #[a, b]) (.int .i64 0)).run Tryz.prog W = .ok (.agg #[a]) W := by kernel_rfl
@[go_sem ↓] theorem idx1 (a b : Value) (W : World) : (Instr.index 138 (.agg #[a, b]) (.int .i64 1)).run Tryz.prog W = .ok (.agg #[b]) W := by kernel_rfl
/-- Elements are appended. -/
theorem app_m {ops : Array Oper} {rest : List Oper} {o : Oper} {a : Act} {w : World} {Q : Exit → Act → World → Prop} (hgd : o.guard = none) (s x : Operand)
    (ho : o.op = .call { callee := .builtin .append, args := #[s, x], argTypes := #[27, 27] }) {v : Value} {g cap n m : Nat} {xs news : List Value} (hs : a.eval s = v) (B0 : Nat) (hB0 : B0 ≤ w.heap.size) (hv : w.ownsRow B0 38 4 v n xs)
    (hx : a.eval x = .slice (some ⟨g, 0, none⟩) m cap) (hl : news.length = m * 4) (hm : ∀ j u, news[j]? = some u → w.cell? ⟨g, j, none⟩ = some u) (h1 : ∀ u ∈ news, u.oneCell' = true) (hm0 : 0 < m) (hn : n + m ≤ 1000000)
    (h : ∀ g' cap' n' w', n' = n + m → w'.ownsRow B0 38 4 (.slice (some ⟨g', 0, none⟩) n' cap') n' (xs ++ news) → B0 ≤ g' → (∀ v0 : World, v0.heap.size ≤ B0 → Below v0.heap.size v0 w → Below v0.heap.size v0 w') → wpList Tryz.prog ops Q rest (a.put o.dst (.slice (some ⟨g', 0, none⟩) n' cap')) w') :
    wpList Tryz.prog ops Q (o :: rest) a w := by
  obtain ⟨ti, hti, htz, hts, htb⟩ := info_parts info38z
  refine wpList_append_lies w hgd s x 27 ho B0 38 ti _ 4 48 und27z hti htz hts htb rfl (by decide) v n xs hs hv ⟨g, 0, none⟩ m cap news hx hl (fun j u hu => ?_) h1 hm0 (by unfold maxLen; omega) (by omega) hB0 _ rfl (fun g' cap' w' r1 r2 r3 r4 => ?_)
  · have e : (⟨g, 0, none⟩ : Addr).add j = ⟨g, j, none⟩ := by unfold Addr.add; split <;> simp_all
    rw [e]
    exact hm j u hu
  · have hB : B0 ≤ g' := by
      obtain ⟨-, hh⟩ := r1
      rcases hh with ⟨hh, -⟩ | ⟨g2, cap2, cur2, hh, hb2, hg2, hn2, hm2, hs2, ht2⟩
      · cases hh
      simp only [Value.slice.injEq, Option.some.injEq, Addr.mk.injEq, and_true, true_and] at hh
      obtain ⟨rfl, -, rfl⟩ := hh
      exact hb2
    refine h g' cap' (n + m) w' rfl r1 hB (fun v0 hv0 hbl => ?_)
    refine ⟨r2.os.trans hbl.os, r2.tape.trans hbl.tape, r2.output.trans hbl.output, Nat.le_trans hbl.size r2.size, fun k hk => ?_⟩
    refine (r2.block k (Nat.lt_of_lt_of_le hk hbl.size) (fun e => ?_)).trans (hbl.block k hk)
    rcases hv.2 with ⟨rfl, -⟩ | ⟨g3, cap3, cur3, rfl, hb3, -⟩
    · cases e
    · simp only [Value.ownBlock, Option.some.injEq] at e
      omega
theorem elS_one {t : Nat × Nat} : ∀ u ∈ elS t, u.oneCell' = true := fun u hu => by
  unfold elS at hu
  simp only [List.mem_cons, List.not_mem_nil, or_false] at hu
  rcases hu with rfl | rfl | rfl | rfl <;> rfl
theorem own_room {w : World} {c : Nat} (h1 : c ≤ maxLen) {W : World} (hW : Below w.heap.size w W) {cur : Array Value} (hc : cur.size = c * 4) : (W.alloc (.cells cur 38)).ownsRow w.heap.size 38 4 (.slice (some ⟨W.heap.size, 0, none⟩) 0 c) 0 [] :=
  ⟨rfl, .inr ⟨W.heap.size, c, cur, rfl, hW.size, block_at W _ _, Nat.zero_le _, h1, hc, rfl⟩⟩
set_option synthInstance.maxHeartbeats 2000000 in
set_option synthInstance.maxSize 100000 in
set_option maxRecDepth 100000 in
set_option maxHeartbeats 16000000 in
theorem hGrowS {w : World} {n : Nat} (h0 : 0 < n) (hn : n ≤ 1000) : Calls Tryz.prog 113 #[.slice none 0 0, .int .i64 n] w fun e w' => ∃ v, e = .returned v ∧ w'.ownsRow w.heap.size 38 4 v 0 [] ∧ Below w.heap.size w w' := by
  obtain ⟨ti, hti, htz, hts, htb⟩ := info_parts info38z
  have hr := Go.Lib.run_append_nil_zeros (P := Tryz.prog) w 27 3 27 38 ti _ .i64 .i64 und27z und3z hti htz n h0 (by rw [hts]; decide) (by omega) (by rw [htb]; omega)
  have h1 : ¬ ((n : Int) < 0) := by omega
  have h2 : (n : Int) > 0 := by omega
  have h3 : wrap64 ((n : Int) - 0) = n := by unfold wrap64; omega
  have g1 := grownCap_ge w n 0 38
  have g2 := grownCap_le_maxLen w n 0 38 (by unfold maxLen; omega)
  generalize grownCap w n 0 38 = c at *
  go_enter Tryz.func113, Tryz.ntmps113
  go_wp2_with (at_builtin; refine Go.Lib.wpList_append_run _ rfl _ _ _ _ rfl _ _ rfl rfl _ _ hr ?_)
  go_ret
  refine ⟨_, rfl, own_room (W := w.drew) g2 (Below.drew (Below.refl _ _)) ?_, (Below.drew (Below.refl _ _)).alloc (Nat.le_refl _) _⟩
  simp [Builtin.zeroCells]
  try omega
set_option synthInstance.maxHeartbeats 2000000 in
set_option synthInstance.maxSize 100000 in
set_option maxRecDepth 100000 in
set_option maxHeartbeats 16000000 in
theorem concatS {w : World} {g h c h2 c2 : Nat} {s t : Nat × Nat} [hs : FsC w h s] [hs2 : FsC w h2 t] [hb : BkC w g [.slice (some ⟨h, 0, none⟩) 1 c, .slice (some ⟨h2, 0, none⟩) 1 c2] 27] : Calls Tryz.prog 71 #[.slice (some ⟨g, 0, none⟩) 2 2] w fun e w' => ∃ g' cap', e = .returned (.slice (some ⟨g', 0, none⟩) 2 cap') ∧ Kp0 w w' := by
  have c0 := hb.out.cell (i := 0) rfl
  have c1 := hb.out.cell (i := 1) rfl
  have HR := hid hs.out
  have HR2 := hid hs2.out
  go_enter Tryz.func71, Tryz.ntmps71
  go_wp2_with fail
  go_loopw [3, 11] (fun s3 s11 wx => ∃ j m : Int, s11 = .int .i64 j ∧ (j = 0 ∧ m = 0 ∨ j = 1 ∧ m = 1 ∨ j = 2 ∧ m = 2) ∧ s3 = .int .i64 m ∧ w = wx) (fun _ s11 _ => 2 - (intOf s11).toNat)
  case atStart => exact ⟨0, 0, rfl, .inl ⟨rfl, rfl⟩, rfl, rfl⟩
  case round =>
    obtain ⟨j, m, rfl, hj, rfl, rfl⟩ := hrel
    rcases hj with ⟨rfl, rfl⟩ | ⟨rfl, rfl⟩ | ⟨rfl, rfl⟩
    · go_wp2_with fail
      go_round
      case rel => exact ⟨1, 1, by first | rfl | go_num, .inr (.inl ⟨rfl, rfl⟩), by first | rfl | go_num | trivial, by first | rfl | trivial⟩
      case measure => simp [intOf]
    · go_wp2_with fail
      go_round
      case rel => exact ⟨2, 2, by first | rfl | go_num, .inr (.inr ⟨rfl, rfl⟩), by first | rfl | go_num | trivial, by first | rfl | trivial⟩
      case measure => simp [intOf]
    · go_wp2_with (go_at_call 113; (with_reducible refine Calls.mono (hGrowS (n := 2) (by decide) (by decide)) ?_); rintro e wc ⟨gv, rfl, ho, kb⟩)
      go_loopw [6, 27] (fun s6 s27 wx => ∃ j : Int, s27 = .int .i64 j ∧ (j = 0 ∧ wx.ownsRow w.heap.size 38 4 s6 0 [] ∨ j = 1 ∧ wx.ownsRow w.heap.size 38 4 s6 1 (elS s) ∨ j = 2 ∧ ∃ g' cap', s6 = .slice (some ⟨g', 0, none⟩) 2 cap') ∧ Below w.heap.size w wx) (fun _ s27 _ => 2 - (intOf s27).toNat)
      case atStart => exact ⟨0, rfl, .inl ⟨rfl, ho⟩, kb⟩
      case round =>
        clear ho kb
        obtain ⟨j, rfl, hj, kb⟩ := hrel
        haveI kk : Kp0 w wr := ⟨kb⟩
        rcases hj with ⟨rfl, ho⟩ | ⟨rfl, ho⟩ | ⟨rfl, g', cap', rfl⟩
        · go_wp2_with (at_builtin; go_loud (refine app_m rfl _ _ rfl rfl w.heap.size kb.size ho rfl (news := elS s) rfl (fun j u hu => (HR.out.below kb).cell hu) elS_one (by decide) (by decide) ?_; intro g' cap' n' wa hn' ho' hg' hbl; obtain rfl : n' = 1 := hn'; have kb' := hbl w (Nat.le_refl _) kb; clear hbl))
          go_round
          case rel => exact ⟨1, by first | rfl | go_num, .inr (.inl ⟨rfl, ho'⟩), kb'⟩
          case measure => simp [intOf]
        · go_wp2_with (at_builtin; go_loud (refine app_m rfl _ _ rfl rfl w.heap.size kb.size ho rfl (news := elS t) rfl (fun j u hu => (HR2.out.below kb).cell hu) elS_one (by decide) (by decide) ?_; intro g' cap' n' wa hn' ho' hg' hbl; obtain rfl : n' = 2 := hn'; have kb' := hbl w (Nat.le_refl _) kb; clear hbl))
          go_round
          case rel => exact ⟨2, by first | rfl | go_num, .inr (.inr ⟨rfl, _, _, rfl⟩), kb'⟩
          case measure => simp [intOf]
        · go_wp2_with fail
          go_ret
          exact ⟨_, _, rfl, ⟨kb⟩⟩
set_option synthInstance.maxHeartbeats 2000000 in
set_option synthInstance.maxSize 100000 in
set_option maxRecDepth 100000 in
set_option maxHeartbeats 16000000 in
theorem hAdd {w : World} {h c h2 c2 : Nat} {s t : Nat × Nat} [hs : FsC w h s] [hs2 : FsC w h2 t] [ok1 : OkS s] [ok2 : OkS t] : Calls Tryz.prog 42 #[.agg #[.slice (some ⟨h, 0, none⟩) 1 c], .agg #[.slice (some ⟨h2, 0, none⟩) 1 c2]] w fun e w' => ∃ g' cap', e = .returned (.tuple #[.agg #[.slice (some ⟨g', 0, none⟩) 2 cap'], .int .i64 0]) ∧ Kp0 w w' := by
  go_enter Tryz.func42, Tryz.ntmps42
  go_wp2_with fail
  go_loopw [12] (fun s12 wx => ∃ j : Int, s12 = .int .i64 j ∧ (j = 0 ∨ j = 1 ∨ j = 2) ∧ Kp0 (((w.alloc (.cells #[.slice (some ⟨h, 0, none⟩) 1 c] 29)).alloc (.cells #[.slice (some ⟨h2, 0, none⟩) 1 c2] 29)).alloc (.cells #[.slice none 0 0] 29)) wx) (fun s12 _ => 2 - (intOf s12).toNat)
  case atStart => exact ⟨0, rfl, .inl rfl, ⟨Gr.out⟩⟩
  case round =>
    obtain ⟨j, rfl, rfl | rfl | rfl, ik⟩ := hrel
    · go_wp2_with (go_at_call 22; (with_reducible refine Calls.mono (hCheck (s := s)) ?_); rintro e wc ⟨rfl, _⟩)
      go_round
      case rel => exact ⟨1, by first | rfl | go_num, .inr (.inl rfl), ⟨Gr.out⟩⟩
      case measure => simp [intOf]
    · go_wp2_with (go_at_call 22; (with_reducible refine Calls.mono (hCheck (s := t)) ?_); rintro e wc ⟨rfl, _⟩)
      go_round
      case rel => exact ⟨2, by first | rfl | go_num, .inr (.inr rfl), ⟨Gr.out⟩⟩
      case measure => simp [intOf]
    · go_wp2_with (go_at_call 71; (with_reducible refine Calls.mono (concatS (s := s) (t := t)) ?_); rintro e wc ⟨g', cap', rfl, _⟩)
      refine ret_cell_tmp rfl rfl rfl (by rfl) (by rfl) (by rfl) ?_
      exact ⟨_, _, rfl, ⟨Gr.out⟩⟩
set_option synthInstance.maxHeartbeats 2000000 in
set_option synthInstance.maxSize 100000 in
set_option maxRecDepth 100000 in
set_option maxHeartbeats 16000000 in
theorem hJoin1 {w : World} {gl capl h c h2 c2 : Nat} {L : List Value} {s t : Nat × Nat} (e0 : Hid (L[0]? = some (.slice (some ⟨h, 0, none⟩) 1 c))) (e1 : Hid (L[1]? = some (.slice (some ⟨h2, 0, none⟩) 1 c2))) [hl : BkC w gl L 29] [hs : FsC w h s] [hs2 : FsC w h2 t] [ok1 : OkS s] [ok2 : OkS t] : Calls Tryz.prog 41 #[.slice (some ⟨gl, 0, none⟩) 2 capl] w fun e w' => ∃ g' cap' n', e = .returned (.tuple #[.agg #[.slice (some ⟨g', 0, none⟩) n' cap'], .int .i64 0]) ∧ Kp0 w w' := by
  go_enter Tryz.func41, Tryz.ntmps41
  go_wp2_with fail
  go_region_held3 (fun W => W.cell? ⟨gl, 0, none⟩ = some (.slice (some ⟨h, 0, none⟩) 1 c) ∧ W.cell? ⟨gl, 1, none⟩ = some (.slice (some ⟨h2, 0, none⟩) 1 c2)) (refine ⟨?_, ?_⟩ <;> first | exact Bk.cell BkC.out e0.out | exact Bk.cell BkC.out e1.out) (first | (go_at_call 42; (with_reducible refine Calls.mono (hAdd (s := s) (t := t)) ?_); rintro e wc ⟨g', cap', rfl, _⟩))
  all_goals
    go_wp2_with fail
    refine ret_cell_tmp rfl rfl rfl (by rfl) (by rfl) (by rfl) ?_
    exact ⟨_, _, _, rfl, ⟨Gr.out⟩⟩
end
section
open Go.RowKit
open Go.Maps Go.ChangeMaps
set_option synthInstance.maxHeartbeats 2000000 in
set_option synthInstance.maxSize 100000 in
set_option maxRecDepth 100000 in
set_option maxHeartbeats 16000000 in
theorem hChangeJ {w : World} {h m n g2 : Nat} {nm s2 s3 : ByteArray} {D : DataW Unit} {F : List UInt8 → Option (Nat × Nat)} {a2 a3 : Nat × Nat} (hsz : Hid (nm.size ≤ 70000)) (hfit : Hid (fitL nm.data.toList = true)) (hsz2 : Hid (s2.size ≤ 70000)) (hfit2 : Hid (fitL s2.data.toList = true)) (hsz3 : Hid (s3.size ≤ 70000)) (hfit3 : Hid (fitL s3.data.toList = true)) [hh : BkC w h [.bool true, .int .i32 0, .int .u32 0, .map (some m)] 51] [hs2 : BkC w g2 [.string s2, .string s3] 9] (hm : Mp w m n D F) (hn : Hid (n < 1000000)) (hFi : Hid ((F nm.data.toList).isSome = true)) (hF2 : Hid (F s2.data.toList = some a2)) (hF3 : Hid (F s3.data.toList = some a3)) [ok2 : OkS a2] [ok3 : OkS a3] : Calls Tryz.prog 19 #[.pointer (some ⟨h, 0, none⟩), .string nm, .slice (some ⟨g2, 0, none⟩) 2 2, .func (.func 41) #[] #[]] w fun e w' => e = .returned (.int .i64 0) ∧ ∃ b : Nat, BkC w' h [.bool true, .int .i32 0, .int .u32 0, .map (some m)] 51 ∧ Mk w' m (n + 1) (D.put (.string nm.data.toList) (.lit (.int .i64 b))) (fun q => if q = nm.data.toList then true else (F q).isSome) ∧ KpS w [h, m] w' := by
  have hkey : keyOf Tryz.prog 9 (.string nm) = some (.string nm.data.toList) := Go.WideMaps.keyOf_string_mk und9z (by have := hsz.out; unfold maxLen; omega)
  have hkey2 : keyOf Tryz.prog 9 (.string s2) = some (.string s2.data.toList) := Go.WideMaps.keyOf_string_mk und9z (by have := hsz2.out; unfold maxLen; omega)
  have hkey3 : keyOf Tryz.prog 9 (.string s3) = some (.string s3.data.toList) := Go.WideMaps.keyOf_string_mk und9z (by have := hsz3.out; unfold maxLen; omega)
  haveI nhm : NeN h m := ⟨by
    obtain ⟨es, c, hmm⟩ := hm.heap
    rintro rfl
    rw [hh.out] at hmm
    cases hmm⟩
  have c2 := hs2.out.cell (i := 0) rfl
  have c3 := hs2.out.cell (i := 1) rfl
  haveI ng2h : NeN g2 h := ⟨by
    rintro rfl
    have a := hs2.out
    rw [Bk, hh.out] at a
    simp at a⟩
  obtain ⟨ti, hti, htz, hts, htb⟩ := info_parts info29z
  go_enter_defers Tryz.func19, Tryz.ntmps19
  go_wp2_with (first | (go_at_call 24; (with_reducible refine Calls.mono (hKnownA2 (s := nm) hsz.out hfit.out hsz2.out hfit2.out hsz3.out hfit3.out (m := m) (h := h) (g2 := g2)) ?_); rintro e wk ⟨rfl, hk0⟩; have ck : wk.cell? ⟨h, 1, none⟩ = some (.int .i32 0) := (inferInstance : BkC wk h _ _).out.cell rfl; have ck3 : wk.cell? ⟨h, 3, none⟩ = some (.map (some m)) := (inferInstance : BkC wk h _ _).out.cell rfl; have fk := (inferInstance : BkC wk h _ _).out.free 1; have hm1 : Hid (Mp wk m n D F) := hid (hm.below Gr.out); have hm2 : Hid (Mp (wk.setCell ⟨h, 1, none⟩ (.int .i32 1)) m n D F) := hid (hm1.out.lock (inferInstance : BkC wk h _ 51).out 1 (.int .i32 1))) | (go_at_call 25; (with_reducible refine Calls.mono (Go.MuLone.lock_free Tryz.muLib ⟨h, 1, none⟩ wk ck fk) ?_); rintro e wl ⟨rfl, rfl⟩))
  obtain ⟨b2, u2, cap2, ha2, hb2, hf2⟩ := hm2.out.lies _ _ hF2.out
  obtain ⟨b3, u3, cap3, ha3, hb3, hf3⟩ := hm2.out.lies _ _ hF3.out
  haveI ib2 : BkC (wk.setCell ⟨h, 1, none⟩ (.int .i32 1)) b2 _ 29 := ⟨hb2⟩
  haveI ib3 : BkC (wk.setCell ⟨h, 1, none⟩ (.int .i32 1)) b3 _ 29 := ⟨hb3⟩
  haveI if2 : FsC (wk.setCell ⟨h, 1, none⟩ (.int .i32 1)) u2 a2 := ⟨hf2⟩
  haveI if3 : FsC (wk.setCell ⟨h, 1, none⟩ (.int .i32 1)) u3 a3 := ⟨hf3⟩
  clear hb2 hb3 hf2 hf3
  obtain ⟨B0, hB1⟩ : ∃ B0, (wk.setCell ⟨h, 1, none⟩ (.int .i32 1)).heap.size = B0 := ⟨_, rfl⟩
  have hB0 := Nat.le_of_eq hB1.symm
  go_loopw [10, 36] (fun s10 s36 wx => ∃ j : Int, s36 = .int .i64 j ∧ (j = 0 ∧ Ox 29 EV B0 wx s10 [] ∨ j = 1 ∧ Ox 29 EV B0 wx s10 [.slice (some ⟨u2, 0, none⟩) 1 cap2] ∨ j = 2 ∧ Ox 29 EV B0 wx s10 [.slice (some ⟨u2, 0, none⟩) 1 cap2, .slice (some ⟨u3, 0, none⟩) 1 cap3]) ∧ Below (wk.setCell ⟨h, 1, none⟩ (.int .i32 1)).heap.size (wk.setCell ⟨h, 1, none⟩ (.int .i32 1)) wx) (fun _ s36 _ => 2 - (intOf s36).toNat)
  case atStart => exact ⟨0, rfl, .inl ⟨rfl, ox_none⟩, Below.refl _ _⟩
  case round =>
    obtain ⟨j, rfl, hj, kw⟩ := hrel
    haveI kk : Kp0 (wk.setCell ⟨h, 1, none⟩ (.int .i32 1)) wr := ⟨kw⟩
    have hmx : Hid (Mp wr m n D F) := hid (hm2.out.below kw)
    have cg2 := (inferInstance : BkC wr g2 _ 9).out.cell (i := 0) rfl
    have cg3 := (inferInstance : BkC wr g2 _ 9).out.cell (i := 1) rfl
    have cb2 := (inferInstance : BkC wr b2 _ 29).out.cell (i := 0) rfl
    have cb3 := (inferInstance : BkC wr b3 _ 29).out.cell (i := 0) rfl
    rcases hj with ⟨rfl, ho⟩ | ⟨rfl, ho⟩ | ⟨rfl, ho⟩
    · go_wp2_with (first | (at_lookup; refine wpList_lookup_own_ok _ rfl _ _ 49 rfl 9 79 keyed9 und49z Rp (zero79 _) (.lit (.int .i64 (-1))) [] rfl m n D rfl hmx.out.own _ _ rfl hkey2 ?_; intro vv ps hv; rw [hmx.out.has, hF2.out]; rw [ha2] at hv; obtain rfl := rp_inv hv; clear hv) | (at_builtin; go_loud (refine app_row (eok_ev 29) rfl _ _ 70 rfl B0 ti _ 24 und70z hti htz hts htb rfl (by decide) rfl (ho.below (eok_ev 29) ((Below.refl _ _).alloc (Nat.le_refl _) _)) rfl (ev_one rfl (inferInstance : BkC _ wr.heap.size [.slice (some ⟨u2, 0, none⟩) 1 cap2] 29).out) (show (0 : Nat) < 1 by decide) (show (0 : Nat) + 1 ≤ 1048576 by decide) (Nat.le_trans (Nat.le_trans hB0 kw.size) (by simp)) ?_; intro g' cap' n' wa hn' ho' hg' hbl hkE; obtain rfl : n' = 1 := hn'; have kb' := hbl (wk.setCell ⟨h, 1, none⟩ (.int .i32 1)) (Nat.le_of_eq hB1) Gr.out; clear hkE hbl)))
      go_round
      case rel => exact ⟨1, by first | rfl | go_num, .inr (.inl ⟨rfl, ho'⟩), kb'⟩
      case measure => simp [intOf]
    · go_wp2_with (first | (at_lookup; refine wpList_lookup_own_ok _ rfl _ _ 49 rfl 9 79 keyed9 und49z Rp (zero79 _) (.lit (.int .i64 (-1))) [] rfl m n D rfl hmx.out.own _ _ rfl hkey3 ?_; intro vv ps hv; rw [hmx.out.has, hF3.out]; rw [ha3] at hv; obtain rfl := rp_inv hv; clear hv) | (at_builtin; go_loud (refine app_row (eok_ev 29) rfl _ _ 70 rfl B0 ti _ 24 und70z hti htz hts htb rfl (by decide) rfl (ho.below (eok_ev 29) ((Below.refl _ _).alloc (Nat.le_refl _) _)) rfl (ev_one rfl (inferInstance : BkC _ wr.heap.size [.slice (some ⟨u3, 0, none⟩) 1 cap3] 29).out) (show (0 : Nat) < 1 by decide) (show (1 : Nat) + 1 ≤ 1048576 by decide) (Nat.le_trans (Nat.le_trans hB0 kw.size) (by simp)) ?_; intro g' cap' n' wa hn' ho' hg' hbl hkE; obtain rfl : n' = 2 := hn'; have kb' := hbl (wk.setCell ⟨h, 1, none⟩ (.int .i32 1)) (Nat.le_of_eq hB1) Gr.out; clear hkE hbl)))
      go_round
      case rel => exact ⟨2, by first | rfl | go_num, .inr (.inr ⟨rfl, ho'⟩), kb'⟩
      case measure => simp [intOf]
    · obtain ⟨gl, capl, LL, rfl, hbl, hcl⟩ := oxv_cells ho (Nat.succ_pos _)
      have q0 := hid (hcl 0 _ rfl)
      have q1 := hid (hcl 1 _ rfl)
      haveI il : BkC wr gl LL 29 := ⟨hbl⟩
      clear ho hcl hbl
      go_wp2_with (first | (go_at_call 41; (with_reducible refine Calls.mono (hJoin1 (s := a2) (t := a3) q0 q1) ?_); rintro e wp ⟨g', cap', n', rfl, hkp⟩; have hm3 : Hid (Mk (wp.alloc (.cells #[.slice (some ⟨g', 0, none⟩) n' cap'] 29)) m n D (fun q => (F q).isSome)) := hid (hmx.out.mk'.below Gr.out)) | (at_lookup; refine wpList_lookup_own_ok _ rfl _ _ 49 rfl 9 79 keyed9 und49z Rp (zero79 _) (.lit (.int .i64 (-1))) [] rfl m n D rfl hm3.out.own _ _ rfl hkey ?_; intro vv ps hv; clear hv; rw [hm3.out.has, hFi.out]) | (at_mapUpdate; refine wpList_mapUpdate_in _ rfl _ _ _ 49 rfl 9 79 keyed9 und49z Rp m n D rfl hm3.out.own (by have := hn.out; unfold maxLen; omega) _ _ _ rfl rfl hkey _ [] rfl ?_; intro w1 ho1 ht1; haveI hk1 : KpS (wp.alloc (.cells #[.slice (some ⟨g', 0, none⟩) n' cap'] 29)) [m] w1 := ⟨turned_keeps ht1⟩))
      refine leaves_cons (f := 26) (args := #[.pointer (some ⟨h, 1, none⟩)]) (by simp) (by simp [go_sem]) ?_
      refine (Go.MuLone.unlock_deferred Tryz.muLib ⟨h, 1, none⟩ .returning _ ?_ ?_).mono ?_
      · exact (inferInstance : BkC _ h _ 51).out.cell rfl
      · exact (inferInstance : BkC _ h _ 51).out.free 1
      rintro e u' w'' ⟨rfl, rfl, rfl⟩
      refine ⟨_, results_tmp rfl _ _ _, rfl, wp.heap.size, inferInstance, (hm3.out.put ho1).lock (inferInstance : BkC w1 h _ 51).out 1 (.int .i32 0), ⟨GS.out⟩⟩
end
end Go.Proofs.YtmjpfoninpbgiaaGreatDoor
