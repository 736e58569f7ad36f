/- What a walk may be asked, of the given program; how a panic is caught. -/
import Derived.Test.YtbocjicihamahaaK
import Derived.Defers
import Derived.Recover
set_option linter.unusedSimpArgs false
set_option linter.unusedVariables false
namespace Go.Proofs.Ytbocjicihamahaa
open Go.RowKit

def askedS (l : List Pl) : Int := if l.length = 1 ∧ feq (l.getD 0 (0, 0)).1 0 = true ∧ feq (l.getD 0 (0, 0)).2 0 = true then 80 else 0
set_option maxHeartbeats 1000000 in
theorem casked_any (l : List Pl) (b off cap : Nat) (w : World) (hok : polyOk l = true) (hc : reads w b off l) (hb : b < w.heap.size) :
    Calls Try.prog 12 #[.slice (some ⟨b, off, none⟩) l.length cap] w fun e w' => e = .returned (.int .i64 (askedS l)) ∧ w = w' := by
  obtain ⟨hpos, hlen, -, -⟩ := polyOk_out hok
  have c0 := hc 0 hpos
  rw [Nat.add_zero] at c0
  have hpi : (0 : Int) < l.length := by omega
  have RD := hid hc
  haveI : Has w b := ⟨hb⟩
  clear hc
  generalize hz : l.getD 0 (0, 0) = z at c0
  have Z := hid hz
  clear hz
  obtain ⟨z1, z2⟩ := z
  by_cases h1 : l.length = 1
  · have e1 : ((l.length : Int) == 1) = true := by simp; omega
    cases h2 : feq z1 0
    · have ea : askedS l = 0 := by unfold askedS; rw [Z.out, if_neg]; simp [h2]
      rw [ea]
      have H1 := hid h1
      clear h1
      unfold feq at h2
      go_enter Try.func12, Try.ntmps12
      go_wp2_with fail
      refine (polycheck_ok l b off cap _ hok RD.out).mono ?_; rintro e wq ⟨rfl, rfl⟩
      go_wp2
      go_returns
      exact ⟨rfl, rfl⟩
    · cases h3 : feq z2 0
      · have ea : askedS l = 0 := by unfold askedS; rw [Z.out, if_neg]; simp [h3]
        rw [ea]
        have H1 := hid h1
        clear h1
        unfold feq at h2 h3
        go_enter Try.func12, Try.ntmps12
        go_wp2_with fail
        refine (polycheck_ok l b off cap _ hok RD.out).mono ?_; rintro e wq ⟨rfl, rfl⟩
        go_wp2
        go_returns
        exact ⟨rfl, rfl⟩
      · have ea : askedS l = 80 := by unfold askedS; rw [Z.out, if_pos]; exact ⟨h1, h2, h3⟩
        rw [ea]
        have H1 := hid h1
        clear h1
        unfold feq at h2 h3
        go_enter Try.func12, Try.ntmps12
        go_wp2_with fail
        refine (polycheck_ok l b off cap _ hok RD.out).mono ?_; rintro e wq ⟨rfl, rfl⟩
        go_wp2
        go_returns
        exact ⟨rfl, rfl⟩
  · have e1 : ((l.length : Int) == 1) = false := by simp; omega
    have ea : askedS l = 0 := by unfold askedS; rw [if_neg]; exact fun h => h1 h.1
    rw [ea]
    clear h1
    go_enter Try.func12, Try.ntmps12
    go_wp2_with fail
    refine (polycheck_ok l b off cap _ hok RD.out).mono ?_; rintro e wq ⟨rfl, rfl⟩
    go_wp2
    go_returns
    exact ⟨rfl, rfl⟩
/-- The first that is not nought. -/
def firstS : List Int → Int
  | [] => 0
  | e :: r => if e = 0 then firstS r else e
theorem first_any (es : List Int) (g off cap : Nat) (w : World) (hn : es.length ≤ 100) (hc : ∀ i, i < es.length → w.cell? ⟨g, off + i, none⟩ = some (.int .i64 (es.getD i 0))) :
    Calls Try.prog 11 #[.slice (some ⟨g, off, none⟩) es.length cap] w fun e w' => e = .returned (.int .i64 (firstS es)) ∧ w = w' := by
  have C := hid hc
  clear hc
  go_enter Try.func11, Try.ntmps11
  go_wp2_with fail
  go_loopw [4, 7] (fun _ i wq => wq = w ∧ ∃ k : Nat, k ≤ es.length ∧ i = .int .i64 k ∧ firstS (es.drop k) = firstS es) (fun _ i _ => es.length - (intOf i).toNat)
  case atStart => exact ⟨rfl, 0, Nat.zero_le _, rfl, rfl⟩
  case round =>
    obtain ⟨rfl, k, hk, rfl, hf⟩ := hrel
    by_cases hlt : k < es.length
    · have ck := C.out k hlt
      have hdr : es.drop k = es.getD k 0 :: es.drop (k + 1) := by
        rw [List.drop_eq_getElem_cons hlt, List.getD_eq_getElem?_getD, List.getElem?_eq_getElem hlt]
        rfl
      rw [hdr] at hf
      have HF := hid hf
      clear hf hdr
      generalize hx : es.getD k 0 = x at ck HF
      clear hx
      by_cases hz : x = 0
      · have ez : (x != 0) = false := by simp [hz]
        have HZ := hid hz
        clear hz
        go_wp2_with fail
        refine ⟨⟨trivial, k + 1, hlt, by rfl, ?_⟩, ?_⟩
        · rw [← HF.out, firstS, if_pos HZ.out]
        · simp [intOf]
          omega
      · have ez : (x != 0) = true := by simp [hz]
        have HZ := hid hz
        clear hz
        go_wp2_with fail
        go_ret
        refine ⟨?_, rfl⟩
        rw [← HF.out, firstS, if_neg HZ.out]
        rfl
    · obtain rfl : k = es.length := by omega
      rw [List.drop_length] at hf
      go_wp2_with fail
      go_ret
      exact ⟨by rw [← hf]; rfl, rfl⟩
theorem path_short (l : List Pl) (b off cap : Nat) (w : World) (hn : l.length < 3) :
    Calls Try.prog 20 #[.slice (some ⟨b, off, none⟩) l.length cap] w fun e w' => e = .returned (.int .i64 4) ∧ w = w' := by
  have hn' : (l.length : Int) < 3 := by omega
  go_enter Try.func20, Try.ntmps20
  go_wp2_with fail
  go_ret
  exact ⟨rfl, rfl⟩
theorem path_ok (l : List Pl) (b off cap : Nat) (w : World) (h3 : 3 ≤ l.length) (hn : l.length ≤ 4096) (hc : reads w b off l) (hp : ∀ i, i < l.length → cwithin (l.getD i (0, 0)).1 (l.getD i (0, 0)).2 maxReal = true) :
    Calls Try.prog 20 #[.slice (some ⟨b, off, none⟩) l.length cap] w fun e w' => e = .returned (.int .i64 0) ∧ w = w' := by
  have h3' : ¬ (l.length : Int) < 3 := by omega
  have hn' : ¬ (l.length : Int) > 4096 := by omega
  have C := hid hc
  have HP := hid hp
  clear hc hp
  go_enter Try.func20, Try.ntmps20
  go_wp2_with fail
  go_loopw [4, 15] (fun _ i wq => wq = w ∧ ∃ k : Nat, k ≤ l.length ∧ i = .int .i64 k) (fun _ i _ => l.length - (intOf i).toNat)
  case atStart => exact ⟨rfl, 0, Nat.zero_le _, rfl⟩
  case round =>
    obtain ⟨rfl, k, hk, rfl⟩ := hrel
    by_cases hlt : k < l.length
    · have ck := C.out k hlt
      have pk := HP.out k hlt
      generalize hx : l.getD k (0, 0) = x at ck pk
      clear hx
      obtain ⟨x1, x2⟩ := x
      go_wp2_with fail
      refine (pwithin_any x1 x2 4787326403894837248 _).mono ?_
      rintro e wq ⟨rfl, rfl⟩
      rw [show cwithin x1 x2 4787326403894837248 = true from pk]
      go_wp2_with fail
      refine ⟨⟨trivial, k + 1, hlt, by rfl⟩, ?_⟩
      simp [intOf]
      omega
    · obtain rfl : k = l.length := by omega
      go_wp2_with fail
      go_ret
      exact ⟨rfl, rfl⟩
theorem recover_idle (p : Addr) (w : World) :
    CallsD Try.prog 30 #[.pointer (some p)] .returning w fun e u' w' => e = .returned (.tuple #[]) ∧ u' = .returning ∧ w' = w := by
  have hnil : ∀ w : World, (binOp BinOp.neq 20 .nilIface .nilIface).run Try.prog w = .ok (.bool false) w := fun _ => by kernel_rfl
  refine callsD_of_wpS Try.func30 rfl fun c₀ cs hu => ?_
  apply wpS_seq
  apply wpS_region
  simp [wpOpsS, go_sem, recoverD, hu, Try.ntmps30, Exit.thenS]
  apply wpS_seq
  apply wpS_region
  simp [wpOpsS, go_sem, Exit.thenS, hnil]
  refine wpS_cond (t := false) (by simp [Act.eval, Array.replicate]) ?_
  simp only [if_false, Bool.false_eq_true]
  refine wpS_of_wp (wp_skip ?_)
  cases c₀
  simp_all [bodyPostS, results, Try.results30, Exit.thenS]
set_option maxRecDepth 100000 in
theorem recover_caught (b : Nat) (w : World) (v : Value) (hb : w.heap[b]? = some (.cells #[v] 4 (0, 0))) :
    CallsD Try.prog 30 #[.pointer (some ⟨b, 0, none⟩)] (.panicking unsureV) w fun e u' w' => e = .returned (.tuple #[]) ∧ u' = .panicking [{ v := .iface 59 (.agg #[]), recovered := true }] ∧ w' = (w.alloc (.cells #[] 59)).setCell ⟨b, 0, none⟩ (.bool false) := by
  have c0 := cell_of_block hb 0
  have f0 := free_of_block hb 0
  haveI : Has w b := ⟨lt_of_block hb⟩
  clear hb
  simp at c0
  have hta : ∀ w, (Instr.typeAssert (.iface 59 (.agg #[])) 20 59 true).run Try.prog w = .ok (.tuple #[.agg #[], .bool true]) w := fun _ => by kernel_rfl
  have hnn : ∀ w : World, (binOp BinOp.neq 20 (.iface 59 (.agg #[])) .nilIface).run Try.prog w = .ok (.bool true) w := fun _ => by kernel_rfl
  refine callsD_of_wpS Try.func30 rfl fun c₀ cs hu => ?_
  apply wpS_seq
  apply wpS_region
  simp [wpOpsS, go_sem, recoverD, hu, Try.ntmps30, Exit.thenS, unsureV]
  apply wpS_seq
  apply wpS_region
  simp [wpOpsS, go_sem, Exit.thenS, hnn]
  refine wpS_cond (t := true) (by simp [Act.eval, Array.replicate]) ?_
  simp only [if_true]
  refine wpS_of_wp ?_
  rw [show ({ tmps := #[.pointer (some ⟨b, 0, none⟩)] ++ ((((Array.replicate 14 undef).setIfInBounds 3 (.iface 59 (.agg #[]))).setIfInBounds 0 (.iface 59 (.agg #[]))).setIfInBounds 4 (.iface 59 (.agg #[]))).setIfInBounds 5 (.bool true), defers := [] } : Act) = { tmps := #[.pointer (some ⟨b, 0, none⟩), .iface 59 (.agg #[]), undef, undef, .iface 59 (.agg #[]), .iface 59 (.agg #[]), .bool true, undef, undef, undef, undef, undef, undef, undef, undef], defers := [] } from rfl]
  go_wp2_with fail
  cases c₀
  simp_all [bodyPostS, results, Try.results30, Exit.thenS]
/-- Something is done surely. -/
theorem surely_any (F : Nat) (cap : Array Value) (w : World) (ok : Bool) (R : World → Prop)
    (hcf : ∀ w, (callFunc F cap).run Try.prog w = .ok (.enter F cap) w)
    (h : Calls Try.prog F cap (w.alloc (.cells #[.bool false] 4)) (fun e w' => e = (if ok = true then .returned (.tuple #[]) else .panicked unsureV) ∧ w'.heap[w.heap.size]? = some (.cells #[.bool false] 4 (0, 0)) ∧ R w')) :
    Calls Try.prog 15 #[.func (.func F) #[] cap] w (fun e w' => e = .returned (.bool ok) ∧ ∃ w1, R w1 ∧ w.heap.size < w1.heap.size ∧ Below w.heap.size w1 w') := by
  have hmf := run_makeFunc
  have H := hid h
  clear h
  go_enter_defers Try.func15, Try.ntmps15
  go_wp2_with fail
  refine H.out.mono ?_
  rintro e w1 ⟨hee, hbl, hR⟩
  have hlt := lt_of_block hbl
  haveI : Has w1 w.heap.size := ⟨hlt⟩
  have c0 := cell_of_block hbl 0
  have f0 := free_of_block hbl 0
  simp at c0
  have BL := hid hbl
  clear hbl
  cases ok
  case true =>
    obtain rfl : e = .returned (.tuple #[]) := hee.trans (by rfl)
    go_wp2_with fail
    refine leaves_cons (f := 30) (args := #[.pointer (some ⟨w.heap.size, 0, none⟩)]) (by simp) (by simp [go_sem]) ?_
    refine (recover_idle ⟨w.heap.size, 0, none⟩ _).mono ?_
    rintro e u' w'' ⟨rfl, rfl, rfl⟩
    simp [Leaves, settle, results, Try.results15, go_sem]
    have hcell := cell_of_block (set_of_block BL.out 0 (.bool true)) 0
    simp at hcell
    rw [hcell]
    exact ⟨_, rfl, rfl, w1, hR, hlt, by (repeat' (first | exact Below.refl _ _ | (refine Below.alloc ?_ ?_ _) | (refine below_plus ?_ ?_ _ _) | (refine Below.drew ?_) | (refine Below.setCell ?_ ?_ _) | (simp; done) | (simp; omega) | assumption))⟩
  case false =>
    obtain rfl : e = .panicked unsureV := hee.trans (by rfl)
    go_wp2_with fail
    refine leaves_cons (f := 30) (args := #[.pointer (some ⟨w.heap.size, 0, none⟩)]) (by simp) (by simp [go_sem]) ?_
    refine (recover_caught w.heap.size _ _ BL.out).mono ?_
    rintro e u' w'' ⟨rfl, rfl, rfl⟩
    simp [Leaves, settle, results, Try.results15, go_sem]
    have hcell := cell_of_block (set_of_block BL.out 0 (.bool false)) 0
    simp at hcell
    rw [hcell]
    exact ⟨_, rfl, rfl, w1, hR, hlt, by (repeat' (first | exact Below.refl _ _ | (refine Below.alloc ?_ ?_ _) | (refine below_plus ?_ ?_ _ _) | (refine Below.drew ?_) | (refine Below.setCell ?_ ?_ _) | (simp; done) | (simp; omega) | assumption))⟩
end Go.Proofs.Ytbocjicihamahaa
