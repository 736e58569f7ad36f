/- The reading of a save, of the given program. The checks of lists and the readers of saves, of the given program. The readers of saves, of the given program. The writers of numbers, of the given program. -/
import Derived.Test.YtmjpfoninpbgiaaGreatDoorD04
set_option linter.unusedSimpArgs false
set_option linter.unusedVariables false
namespace Go.Proofs.YtmjpfoninpbgiaaGreatDoor
section
open Go.RowKit


/-- A save is read: the reader, the row of what was read. -/
structure Rs (w0 : World) (B0 LB rb : Nat) (s : ByteArray) (st : St) (T E size n : Nat) (xs : List Value) (sv : Value) (w : World) : Prop where
  rd : Rd w rb s st.1 st.2
  lb : w.heap[LB]? = some (.cells #[sv] T (0, 0))
  own : w.ownsRow B0 E size sv n xs
  kp : Keeps B0 [LB] w0 w
structure At0 (w0 : World) (B0 LB rb : Nat) (T E : Nat) : Prop where
  l40 : 10 ≤ LB
  lb : LB < B0
  br : B0 ≤ rb
  t1 : T ≠ E
  t2 : 269 ≠ E
section
variable {w0 w w' : World} {B0 LB rb T E size n : Nat} {s : ByteArray} {st st' : St} {sv : Value} {xs : List Value}
theorem Rs.lt (R : Rs w0 B0 LB rb s st T E size n xs sv w) : rb < w.heap.size := lt_of_block R.rd
theorem Rs.at (R : Rs w0 B0 LB rb s st T E size n xs sv w) (A : At0 w0 B0 LB rb T E) : At w B0 LB rb T E := ⟨A.l40, A.lb, A.br, R.lt, A.t1, A.t2⟩
theorem Rs.alloc (R : Rs w0 B0 LB rb s st T E size n xs sv w) (A : At0 w0 B0 LB rb T E) (o : Obj) : Rs w0 B0 LB rb s st T E size n xs sv (w.alloc o) :=
  ⟨R.rd.alloc _, (Below.heap_alloc w _ LB (lt_of_block R.lb)).trans R.lb, own_keeps R.own (Keeps.alloc (Keeps.refl w.heap.size [] w) (Nat.le_refl _) _) (Nat.le_refl _) (by simp), R.kp.alloc (by have := R.lt; have := A.br; omega) _⟩
theorem Rs.call (R : Rs w0 B0 LB rb s st T E size n xs sv w) (A : At0 w0 B0 LB rb T E) (k : Keeps w.heap.size [rb] w w') (h : Rd w' rb s st'.1 st'.2) : Rs w0 B0 LB rb s st' T E size n xs sv w' := by
  have hr := R.lt; have hb := A.br; have hl := A.lb
  refine ⟨h, (k.block LB (lt_of_block R.lb) (by simp; omega)).trans R.lb, own_keeps R.own k (Nat.le_refl _) (fun g hg => ?_), R.kp.trans (k.mono (by omega) (fun j hj hm => by simp at hm; omega))⟩
  simp only [List.mem_cons, List.not_mem_nil, or_false]
  exact fun e => own_ne R.own R.rd A.t2 (by rw [hg, e])
end
/-- What a reader of lines is to do. -/
structure Law (K T E size : Nat) {α : Type} (s : ByteArray) (line : St → α × St) (cells : α → List Value) (wr : α → By) : Prop where
  enter : ∀ args w, (callFunc K args).run Tryz.prog w = .ok (.enter K args) w
  does : ∀ (rb i : Nat) (a : Int) (LB B0 n : Nat) (sv : Value) (xs : List Value) (w : World), Rd w rb s i a → i ≤ s.size → At w B0 LB rb T E → w.heap[LB]? = some (.cells #[sv] T (0, 0)) → w.ownsRow B0 E size sv n xs → n ≤ 70000 → Vars w → 10 ≤ B0 →
    Calls Tryz.prog K #[.pointer (some ⟨LB, 0, none⟩), .pointer (some ⟨rb, 0, none⟩)] w (LinePost B0 LB rb s (line (i, a)).2 T E size n xs (cells (line (i, a)).1) w)
  le : ∀ st : St, st.1 ≤ s.size → (line st).2.1 ≤ s.size
  ok : LineOk s.data.toList line wr
/-- How the reading of a save ends: nothing wrong, or a fault in a block of its own. -/
def Told (w : World) (c p : Int) (v : Value) (w' : World) : Prop :=
  (c = 0 ∧ v = .nilIface) ∨ (c ≠ 0 ∧ ∃ g, w.heap.size ≤ g ∧ v = .iface 93 (.pointer (some ⟨g, 0, none⟩)) ∧ w'.heap[g]? = some (.cells #[.int .i64 c, .int .i64 p] 58 (0, 0)))
def wEddy : ByteArray := ⟨#[101, 100, 100, 121]⟩
def wOne : ByteArray := ⟨#[49]⟩
def wNl : ByteArray := ⟨#[10]⟩
def wSum : ByteArray := ⟨#[115, 117, 109]⟩
theorem lines_step {α : Type} (s one : By) (line : St → α × St) (k : Nat) (st : St) (h : st.2 < 0) :
    linesS s one line (k + 1) st = ((line (mustS s [one, [32]] st)).1 :: (linesS s one line k (mustS s [[10]] (line (mustS s [one, [32]] st)).2)).1, (linesS s one line k (mustS s [[10]] (line (mustS s [one, [32]] st)).2)).2) := by
  simp only [linesS, if_pos h]
theorem lines_stop {α : Type} (s one : By) (line : St → α × St) (k : Nat) (st : St) (h : k = 0 ∨ ¬ st.2 < 0) : linesS s one line k st = ([], st) := by
  cases k with
  | zero => rfl
  | succ k => simp only [linesS, if_neg (h.resolve_left (by omega))]
theorem read_val {α : Type} {s kind word one : By} {line : St → α × St} {r1 r3 st st4 st6 : St} {r2 r5 : Nat × St} {l : List α} (h0 : ¬ 65536 < s.length) (e1 : r1 = mustS s (headL kind word) (0, -1)) (e2 : r2 = wholeS s 63 r1) (e3 : r3 = mustS s [[10]] r2.2)
    (e4 : linesS s one line r2.1 r3 = (l, st)) (e5 : st4 = mustS s [[115, 117, 109], [32]] st) (e6 : r5 = sixteenS s st4) (e7 : st6 = mustS s [[10]] r5.2) :
    readS s kind word one line = if (if st6.2 < 0 ∧ st6.1 < s.length then ((st6.1, (st6.1 : Int)) : St) else st6).2 < 0 then (if r5.1 = sumS (s.take st.1) then (l, 0, 0) else (l, 291, (st4.1 : Int))) else (l, 290, (if st6.2 < 0 ∧ st6.1 < s.length then ((st6.1, (st6.1 : Int)) : St) else st6).2) := by
  subst e1 e2 e3 e5 e6 e7
  unfold readS endsS
  rw [if_neg h0]
  simp only [e4]
theorem val_cases {α : Type} {Q : List α × Int × Int} {l : List α} {a b : St} {told : Nat} {sm n : Nat} (h : Q = if (if a.2 < 0 ∧ a.1 < n then ((a.1, (a.1 : Int)) : St) else a).2 < 0 then (if told = sm then (l, 0, 0) else (l, 291, (b.1 : Int))) else (l, 290, (if a.2 < 0 ∧ a.1 < n then ((a.1, (a.1 : Int)) : St) else a).2)) :
    (a.2 < 0 → a.1 < n → Q = (l, 290, (a.1 : Int))) ∧ (a.2 < 0 → ¬ a.1 < n → told = sm → Q = (l, 0, 0)) ∧ (a.2 < 0 → ¬ a.1 < n → ¬ told = sm → Q = (l, 291, (b.1 : Int))) ∧ (¬ a.2 < 0 → Q = (l, 290, a.2)) := by
  refine ⟨fun h1 h2 => ?_, fun h1 h2 h3 => ?_, fun h1 h2 h3 => ?_, fun h1 => ?_⟩
  · have e : (if a.2 < 0 ∧ a.1 < n then ((a.1, (a.1 : Int)) : St) else a) = (a.1, (a.1 : Int)) := if_pos ⟨h1, h2⟩
    rw [h, e, if_neg (show ¬ ((a.1 : Int) < 0) by omega)]
  · have e : (if a.2 < 0 ∧ a.1 < n then ((a.1, (a.1 : Int)) : St) else a) = a := if_neg (fun x => h2 x.2)
    rw [h, e, if_pos h1, if_pos h3]
  · have e : (if a.2 < 0 ∧ a.1 < n then ((a.1, (a.1 : Int)) : St) else a) = a := if_neg (fun x => h2 x.2)
    rw [h, e, if_pos h1, if_neg h3]
  · have e : (if a.2 < 0 ∧ a.1 < n then ((a.1, (a.1 : Int)) : St) else a) = a := if_neg (fun x => h1 x.1)
    rw [h, e, if_neg h1]
theorem line_far {α : Type} {s one : By} {line : St → α × St} {wr : α → By} (hl : LineOk s line wr) (st : St) (h : (mustS s [[10]] (line (mustS s [one, [32]] st)).2).2 < 0) : st.1 + 1 ≤ (mustS s [[10]] (line (mustS s [one, [32]] st)).2).1 := by
  obtain ⟨h1, -, h3, -⟩ := must_ok _ _ _ h
  obtain ⟨g1, -, g3, -⟩ := hl _ h1
  obtain ⟨-, -, f3, -⟩ := must_ok _ _ _ g1
  simp at h3 f3
  omega
theorem sum_take (s : ByteArray) (k : Nat) : (s.extract 0 k).data.toList = s.data.toList.take k := by
  rw [Lib.extract_data]; simp
set_option maxRecDepth 100000 in
set_option maxHeartbeats 16000000 in
theorem read_any (K T E size : Nat) {α : Type} (s kind word one : ByteArray) (line : St → α × St) (cells : α → List Value) (wr : α → By) (law : Law K T E size s line cells wr) (hs : s.size ≤ 70000) (LB : Nat) (w : World) (V : Vars w) (hT : T ≠ E) (hE : 269 ≠ E)
    (hl : w.heap[LB]? = some (.cells #[.slice none 0 0] T (0, 0))) (hL : 10 ≤ LB) :
    Calls Tryz.prog 157 #[.string s, .string kind, .string word, .string one, .func (.func K) #[.pointer (some ⟨LB, 0, none⟩)] #[]] w fun e w' =>
      ∃ v sv, e = .returned v ∧ Told w (readS s.data.toList kind.data.toList word.data.toList one.data.toList line).2.1 (readS s.data.toList kind.data.toList word.data.toList one.data.toList line).2.2 v w' ∧
        (s.size ≤ 65536 → w'.heap[LB]? = some (.cells #[sv] T (0, 0)) ∧ w'.ownsRow w.heap.size E size sv (readS s.data.toList kind.data.toList word.data.toList one.data.toList line).1.length ((readS s.data.toList kind.data.toList word.data.toList one.data.toList line).1.flatMap cells)) ∧
        Keeps w.heap.size [LB] w w' := by
  have lL := lt_of_block hl
  have V' := hid V
  by_cases hlong : 65536 < s.size
  · unfold readS
    rw [if_pos (by rw [size_list]; exact hlong)]
    clear hl V
    go_enter Tryz.func157, Tryz.ntmps157
    go_wp2_with (go_at_call 159; ((with_reducible refine (fault_any _ _ _).mono ?_); rintro e w' ⟨rfl, rfl⟩))
    go_ret
    exact ⟨_, .nilIface, rfl, Or.inr ⟨by decide, w.heap.size, Nat.le_refl _, rfl, by simp only [block_at]⟩, fun h => by omega, (Keeps.refl _ _ _).alloc (Nat.le_refl _) _⟩
  · have A : At0 w w.heap.size LB w.heap.size T E := ⟨hL, lL, Nat.le_refl _, hT, hE⟩
    obtain ⟨w0, hw0⟩ : ∃ w0, w0 = w.alloc (.cells #[.string s, .int .i64 0, .int .i64 (-1)] 269) := ⟨_, rfl⟩
    have R0 : Rs w w.heap.size LB w.heap.size s (0, -1) T E size 0 [] (.slice none 0 0) w0 := by
      rw [hw0]
      exact ⟨by unfold Rd; simp only [block_at]; rfl, (Below.heap_alloc w _ LB lL).trans hl, ⟨by simp, .inl ⟨rfl, rfl⟩⟩, (Keeps.refl _ _ _).alloc (Nat.le_refl _) _⟩
    have z0 : w0.heap.size = w.heap.size + 1 := by rw [hw0]; simp
    obtain ⟨Q, hQ⟩ : ∃ Q, Q = readS s.data.toList kind.data.toList word.data.toList one.data.toList line := ⟨_, rfl⟩
    rw [← hQ]
    have HQ := hid hQ
    have L0 := hid R0
    have hcf := law.enter
    have h40 : 10 ≤ w.heap.size := by omega
    clear hl R0 V hQ
    go_enter Tryz.func157, Tryz.ntmps157
    go_wp2_with fail
    rw [← hw0]
    rw [show w.heap.size + 1 = w0.heap.size from z0.symm]
    clear hw0
    have hi0 : ((0, -1) : St).1 ≤ s.size := Nat.zero_le _
    refine (must_any w.heap.size s ((0, -1) : St).1 ((0, -1) : St).2 [wEddy, blank, kind, blank, wOne, wNl, word, blank] w0.heap.size 8 8 _ (L0.out.alloc A _).rd hi0 hs rfl (by decide) (by omega) (by simp) ?_).mono ?_
    · intro j hj
      rw [cell_of_block (show (w0.alloc (.cells #[.string ⟨#[101, 100, 100, 121]⟩, .string ⟨#[32]⟩, .string kind, .string ⟨#[32]⟩, .string ⟨#[49]⟩, .string ⟨#[10]⟩, .string word, .string ⟨#[32]⟩] 9)).heap[w0.heap.size]? = some (.cells #[.string ⟨#[101, 100, 100, 121]⟩, .string ⟨#[32]⟩, .string kind, .string ⟨#[32]⟩, .string ⟨#[49]⟩, .string ⟨#[10]⟩, .string word, .string ⟨#[32]⟩] 9 (0, 0)) by simp only [block_at])]
      rcases (show j = 0 ∨ j = 1 ∨ j = 2 ∨ j = 3 ∨ j = 4 ∨ j = 5 ∨ j = 6 ∨ j = 7 by omega) with rfl | rfl | rfl | rfl | rfl | rfl | rfl | rfl <;> rfl
    rintro e w1 ⟨rfl, hR, hK⟩
    have L1 := hid ((L0.out.alloc A _).call A hK hR)
    have hi1 := must_le s.data.toList (headL kind.data.toList word.data.toList) (0, -1) (Nat.zero_le _)
    rw [size_list] at hi1
    obtain ⟨r1, hr1⟩ : ∃ r, r = mustS s.data.toList (headL kind.data.toList word.data.toList) (0, -1) := ⟨_, rfl⟩
    rw [← hr1] at hi1
    rw [show mustS s.data.toList ([wEddy, blank, kind, blank, wOne, wNl, word, blank].map fun x => x.data.toList) (((0, -1) : St).1, ((0, -1) : St).2) = r1 from hr1.symm] at L1
    have E1 := hid hr1
    clear hr1 hR hK
    go_wp2_with fail
    have hV1 := V'.out.keep L1.out.kp h40 (by simpa using hL)
    refine (whole_any 63 (Or.inr rfl) w.heap.size s r1.1 r1.2 _ L1.out.rd hi1 hs hV1 (by have := L1.out.lt; omega) h40).mono ?_
    rintro e w2 ⟨rfl, hR, hK⟩
    have L2 := hid (L1.out.call A hK hR)
    have hi2 := whole_le s.data.toList 63 r1 (by rw [size_list]; exact hi1)
    rw [size_list] at hi2
    have hw2 := whole_lt s.data.toList 63 r1
    obtain ⟨r2, hr2⟩ : ∃ r, r = wholeS s.data.toList 63 r1 := ⟨_, rfl⟩
    rw [show wholeS s.data.toList 63 (r1.1, r1.2) = r2 from hr2.symm] at L2 ⊢
    rw [← hr2] at hi2 hw2
    have E2 := hid hr2
    clear hr2 hR hK hV1
    go_wp2_with fail
    refine (must_any w.heap.size s r2.2.1 r2.2.2 [wNl] w2.heap.size 1 1 _ (L2.out.alloc A _).rd hi2 hs rfl (by decide) (by have := L2.out.lt; simp at this ⊢; omega) (by simp) ?_).mono ?_
    · intro j hj
      rw [cell_of_block (show (w2.alloc (.cells #[.string ⟨#[10]⟩] 9)).heap[w2.heap.size]? = some (.cells #[.string ⟨#[10]⟩] 9 (0, 0)) by simp only [block_at])]
      (have h0 : j = 0 := by omega); subst h0; rfl
    rintro e w3 ⟨rfl, hR, hK⟩
    have L3 := hid ((L2.out.alloc A _).call A hK hR)
    have hi3 := must_le s.data.toList [[10]] r2.2 (by rw [size_list]; exact hi2)
    rw [size_list] at hi3
    obtain ⟨r3, hr3⟩ : ∃ r, r = mustS s.data.toList [[10]] r2.2 := ⟨_, rfl⟩
    rw [← hr3] at hi3
    rw [show mustS s.data.toList ([wNl].map fun x => x.data.toList) (r2.2.1, r2.2.2) = r3 from hr3.symm] at L3
    have E3 := hid hr3
    clear hr3 hR hK L0 L1 L2
    obtain ⟨NN, hNN⟩ : ∃ NN, NN = r2.1 := ⟨_, rfl⟩
    rw [← hNN] at hw2 ⊢
    have EN := hid hNN
    clear hNN
    go_wp2_with fail
    go_loopw [13] (fun t wr => ∃ (c : Nat) (st : St) (l : List α) (sv : Value), t = .int .u64 c ∧ c ≤ NN ∧ Hid (Rs w w.heap.size LB w.heap.size s st T E size l.length (l.flatMap cells) sv wr) ∧ st.1 ≤ s.size ∧ (st.2 < 0 → l.length ≤ st.1) ∧
      Hid (linesS s.data.toList one.data.toList line NN r3 = (l ++ (linesS s.data.toList one.data.toList line (NN - c) st).1, (linesS s.data.toList one.data.toList line (NN - c) st).2))) (fun t _ => NN - (intOf t).toNat)
    case atStart => exact ⟨0, r3, [], .slice none 0 0, rfl, Nat.zero_le _, L3, hi3, fun _ => Nat.zero_le _, hid rfl⟩
    case round =>
      obtain ⟨c, st, l, sv, rfl, hc, L4, hi4, hn4, HL⟩ := hrel
      have q1 := cell_of_block L4.out.rd 1
      simp at q1
      by_cases h1 : c < NN
      · by_cases h2 : st.2 < 0
        · have h2' : decide (st.2 < 0) = true := by simpa using h2
          have hn := hn4 h2
          go_wp2_with (go_at_call 188; ((with_reducible refine (ok_any w.heap.size s st.1 st.2 _ L4.out.rd).mono ?_); rintro e w' ⟨rfl, rfl⟩))
          refine (must_any w.heap.size s st.1 st.2 [one, blank] wr.heap.size 2 2 _ (L4.out.alloc A _).rd hi4 hs rfl (by decide) (by have := L4.out.lt; omega) (by simp) ?_).mono ?_
          · intro j hj
            rw [cell_of_block (show (wr.alloc (.cells #[.string one, .string ⟨#[32]⟩] 9)).heap[wr.heap.size]? = some (.cells #[.string one, .string ⟨#[32]⟩] 9 (0, 0)) by simp only [block_at])]
            rcases (show j = 0 ∨ j = 1 by omega) with rfl | rfl <;> rfl
          rintro e w5 ⟨rfl, hR, hK⟩
          have L5 := hid ((L4.out.alloc A _).call A hK hR)
          have hi5 := must_le s.data.toList [one.data.toList, [32]] st (by rw [size_list]; exact hi4)
          rw [size_list] at hi5
          obtain ⟨r5, hr5⟩ : ∃ r, r = mustS s.data.toList [one.data.toList, [32]] st := ⟨_, rfl⟩
          rw [← hr5] at hi5
          rw [show mustS s.data.toList ([one, blank].map fun x => x.data.toList) (st.1, st.2) = r5 from hr5.symm] at L5
          have E5 := hid hr5
          clear hr5 hR hK
          go_wp2_with fail
          refine (law.does w.heap.size r5.1 r5.2 LB w.heap.size l.length sv (l.flatMap cells) _ L5.out.rd hi5 (L5.out.at A) L5.out.lb L5.out.own (by omega) (V'.out.keep L5.out.kp h40 (by simpa using hL)) h40).mono ?_
          rintro e w6 ⟨rfl, hR, ⟨sv', hlb', hown'⟩, hK⟩
          have hi6 := law.le r5 hi5
          obtain ⟨r6, hr6⟩ : ∃ r, r = line r5 := ⟨_, rfl⟩
          rw [show line (r5.1, r5.2) = r6 from hr6.symm] at hR hown'
          rw [← hr6] at hi6
          have L6 : Hid (Rs w w.heap.size LB w.heap.size s r6.2 T E size (l ++ [r6.1]).length ((l ++ [r6.1]).flatMap cells) sv' w6) := hid ⟨hR, hlb', by simpa using hown', L5.out.kp.trans hK⟩
          have E6 := hid hr6
          clear hr6 hR hK hlb' hown'
          have hstep := lines_step s.data.toList one.data.toList line (NN - (c + 1)) st h2
          rw [show NN - (c + 1) + 1 = NN - c by omega, ← E5.out, ← E6.out] at hstep
          have hfar := line_far (one := one.data.toList) law.ok st
          rw [← E5.out, ← E6.out] at hfar
          have hfin : linesS s.data.toList one.data.toList line NN r3 = ((l ++ [r6.1]) ++ (linesS s.data.toList one.data.toList line (NN - (c + 1)) (mustS s.data.toList [[10]] r6.2)).1, (linesS s.data.toList one.data.toList line (NN - (c + 1)) (mustS s.data.toList [[10]] r6.2)).2) := by
            rw [HL.out, hstep]; simp
          have HF := hid hfin
          clear hfin hstep
          by_cases h6 : r6.2.2 < 0
          · have h6' : decide (r6.2.2 < 0) = true := by simpa using h6
            go_wp2_with (go_at_call 188; ((with_reducible refine (ok_any w.heap.size s r6.2.1 r6.2.2 _ L6.out.rd).mono ?_); rintro e w' ⟨rfl, rfl⟩))
            refine (must_any w.heap.size s r6.2.1 r6.2.2 [wNl] w6.heap.size 1 1 _ (L6.out.alloc A _).rd hi6 hs rfl (by decide) (by have := L6.out.lt; omega) (by simp) ?_).mono ?_
            · intro j hj
              rw [cell_of_block (show (w6.alloc (.cells #[.string ⟨#[10]⟩] 9)).heap[w6.heap.size]? = some (.cells #[.string ⟨#[10]⟩] 9 (0, 0)) by simp only [block_at])]
              (have h0 : j = 0 := by omega); subst h0; rfl
            rintro e w7 ⟨rfl, hR, hK⟩
            have L7 := hid ((L6.out.alloc A _).call A hK hR)
            have hi7 := must_le s.data.toList [[10]] r6.2 (by rw [size_list]; exact hi6)
            rw [size_list] at hi7
            rw [show mustS s.data.toList ([wNl].map fun x => x.data.toList) (r6.2.1, r6.2.2) = mustS s.data.toList [[10]] r6.2 from rfl] at L7
            go_wp2_with fail
            go_roundw
            case rel => exact ⟨c + 1, _, l ++ [r6.1], sv', by rfl, by omega, L7, hi7, fun h => by have := hfar h; simp; omega, HF⟩
            case measure => simp [intOf]; omega
          · have h6' : decide (r6.2.2 < 0) = false := by simpa using h6
            have hno := must_not s.data.toList [[10]] r6.2 h6
            rw [hno] at HF
            go_wp2_with (go_at_call 188; ((with_reducible refine (ok_any w.heap.size s r6.2.1 r6.2.2 _ L6.out.rd).mono ?_); rintro e w' ⟨rfl, rfl⟩))
            go_roundw
            case rel => exact ⟨c + 1, _, l ++ [r6.1], sv', by rfl, by omega, L6, hi6, fun h => by omega, HF⟩
            case measure => simp [intOf]; omega
        · have h2' : decide (st.2 < 0) = false := by simpa using h2
          have hstop := lines_stop s.data.toList one.data.toList line (NN - c) st (Or.inr h2)
          have hall : linesS s.data.toList one.data.toList line NN r3 = (l, st) := by rw [HL.out, hstop]; simp
          rw [EN.out] at hall
          have HALL := hid hall
          clear hall hstop HL
          go_wp2_with (go_at_call 188; ((with_reducible refine (ok_any w.heap.size s st.1 st.2 _ L4.out.rd).mono ?_); rintro e w' ⟨rfl, rfl⟩))
          refine (must_any w.heap.size s st.1 st.2 [wSum, blank] wr.heap.size 2 2 _ (L4.out.alloc A _).rd hi4 hs rfl (by decide) (by have := L4.out.lt; omega) (by simp) ?_).mono ?_
          · intro j hj
            rw [cell_of_block (show (wr.alloc (.cells #[.string ⟨#[115, 117, 109]⟩, .string ⟨#[32]⟩] 9)).heap[wr.heap.size]? = some (.cells #[.string ⟨#[115, 117, 109]⟩, .string ⟨#[32]⟩] 9 (0, 0)) by simp only [block_at])]
            rcases (show j = 0 ∨ j = 1 by omega) with rfl | rfl <;> rfl
          rintro e w5 ⟨rfl, hR, hK⟩
          have L5 := hid ((L4.out.alloc A _).call A hK hR)
          have hi5 := must_le s.data.toList [[115, 117, 109], [32]] st (by rw [size_list]; exact hi4)
          rw [size_list] at hi5
          obtain ⟨r5, hr5⟩ : ∃ r, r = mustS s.data.toList [[115, 117, 109], [32]] st := ⟨_, rfl⟩
          rw [← hr5] at hi5
          rw [show mustS s.data.toList ([wSum, blank].map fun x => x.data.toList) (st.1, st.2) = r5 from hr5.symm] at L5
          have E5 := hid hr5
          clear hr5 hR hK
          have q5 := cell_of_block L5.out.rd 1
          simp at q5
          go_wp2_with fail
          refine (sixteen_any w.heap.size s r5.1 r5.2 _ L5.out.rd hi5 hs).mono ?_
          rintro e w6 ⟨rfl, hR, hK⟩
          have L6 := hid (L5.out.call A hK hR)
          have hi6 := sixteen_le s.data.toList r5 (by rw [size_list]; exact hi5)
          rw [size_list] at hi6
          obtain ⟨r6, hr6⟩ : ∃ r, r = sixteenS s.data.toList r5 := ⟨_, rfl⟩
          rw [show sixteenS s.data.toList (r5.1, r5.2) = r6 from hr6.symm] at L6 ⊢
          rw [← hr6] at hi6
          have E6 := hid hr6
          clear hr6 hR hK
          go_wp2_with fail
          refine (must_any w.heap.size s r6.2.1 r6.2.2 [wNl] w6.heap.size 1 1 _ (L6.out.alloc A _).rd hi6 hs rfl (by decide) (by have := L6.out.lt; omega) (by simp) ?_).mono ?_
          · intro j hj
            rw [cell_of_block (show (w6.alloc (.cells #[.string ⟨#[10]⟩] 9)).heap[w6.heap.size]? = some (.cells #[.string ⟨#[10]⟩] 9 (0, 0)) by simp only [block_at])]
            (have h0 : j = 0 := by omega); subst h0; rfl
          rintro e w7 ⟨rfl, hR, hK⟩
          have L7 := hid ((L6.out.alloc A _).call A hK hR)
          have hi7 := must_le s.data.toList [[10]] r6.2 (by rw [size_list]; exact hi6)
          rw [size_list] at hi7
          obtain ⟨r7, hr7⟩ : ∃ r, r = mustS s.data.toList [[10]] r6.2 := ⟨_, rfl⟩
          rw [← hr7] at hi7
          rw [show mustS s.data.toList ([wNl].map fun x => x.data.toList) (r6.2.1, r6.2.2) = r7 from hr7.symm] at L7
          have hval := read_val (by rw [size_list]; exact hlong) E1.out E2.out E3.out HALL.out E5.out E6.out hr7
          rw [← HQ.out, size_list] at hval
          obtain ⟨vA, vB, vC, vD⟩ := val_cases hval
          clear hval
          clear hr7 hR hK L5 L6
          have q7 := cell_of_block L7.out.rd 1
          have a7 := cell_of_block L7.out.rd 2
          simp at q7 a7
          by_cases h7 : r7.2 < 0
          · have h7' : decide (r7.2 < 0) = true := by simpa using h7
            by_cases h8 : r7.1 < s.size
            · have h8' : ((r7.1 : Int) < (s.size : Int)) := by omega
              have hval := vA h7 h8
              have HV := hid hval
              clear hval vA vB vC vD
              go_wp2_with (go_at_call 188; ((with_reducible refine (ok_any w.heap.size s r7.1 r7.2 _ L7.out.rd).mono ?_); rintro e w' ⟨rfl, rfl⟩))
              refine (wrong_any w.heap.size s r7.1 r7.2 r7.1 _ L7.out.rd).mono ?_
              rintro e w8 ⟨rfl, hR, hK⟩
              rw [if_pos h7] at hR
              have L8 := hid (L7.out.call (st' := (r7.1, (r7.1 : Int))) A hK hR)
              clear hR hK
              have a8 := cell_of_block L8.out.rd 2
              simp at a8
              have h9 : decide ((r7.1 : Int) < 0) = false := by simp
              have K8 := L8.out.kp
              go_wp2_with (first | (go_at_call 188; ((with_reducible refine (ok_any w.heap.size s r7.1 r7.1 _ L8.out.rd).mono ?_); rintro e w' ⟨rfl, rfl⟩)) | (go_at_call 159; ((with_reducible refine (fault_any _ _ _).mono ?_); rintro e w' ⟨rfl, rfl⟩)))
              go_ret
              rw [HV.out]
              exact ⟨_, sv, rfl, Or.inr ⟨(by simp), w8.heap.size, L8.out.kp.size, rfl, by simp only [block_at]⟩, fun _ => ⟨(L8.out.alloc A _).lb, (L8.out.alloc A _).own⟩, (L8.out.alloc A _).kp⟩
            · have h8' : ¬ ((r7.1 : Int) < (s.size : Int)) := by omega
              have hsum := fun w1 => sum_any (s.extract 0 st.1) (by have : (s.extract 0 st.1).data.toList.length ≤ s.data.toList.length := (by rw [sum_take]; simp; omega); rw [size_list, size_list] at this; omega) w1
              rw [sum_take] at hsum
              by_cases h9 : r6.1 = sumS (s.data.toList.take st.1)
              · have hval := vB h7 h8 h9
                have h9' : ((r6.1 : Int) != ((sumS (s.data.toList.take st.1) : Nat) : Int)) = false := by rw [h9]; simp
                have HV := hid hval
                clear hval vA vB vC vD
                go_wp2_with (go_at_call 188; ((with_reducible refine (ok_any w.heap.size s r7.1 r7.2 _ L7.out.rd).mono ?_); rintro e w' ⟨rfl, rfl⟩))
                refine (hsum _).mono ?_
                rintro e w8 ⟨rfl, hb⟩
                have HB8 := hid hb
                clear hb
                go_wp2_with fail
                go_ret
                rw [HV.out]
                have L8 := L7.out.call (st' := r7) A (Keeps.of_below (S := [w.heap.size]) HB8.out) (L7.out.rd.keep (Keeps.of_below (S := []) HB8.out) L7.out.lt (by simp))
                exact ⟨_, sv, rfl, Or.inl ⟨rfl, rfl⟩, fun _ => ⟨L8.lb, L8.own⟩, L8.kp⟩
              · have hval := vC h7 h8 h9
                have h9' : ((r6.1 : Int) != ((sumS (s.data.toList.take st.1) : Nat) : Int)) = true := by simp; omega
                have HV := hid hval
                clear hval vA vB vC vD
                go_wp2_with (go_at_call 188; ((with_reducible refine (ok_any w.heap.size s r7.1 r7.2 _ L7.out.rd).mono ?_); rintro e w' ⟨rfl, rfl⟩))
                refine (hsum _).mono ?_
                rintro e w8 ⟨rfl, hb⟩
                have HB8 := hid hb
                clear hb
                go_wp2_with (go_at_call 159; ((with_reducible refine (fault_any _ _ _).mono ?_); rintro e w' ⟨rfl, rfl⟩))
                go_ret
                rw [HV.out]
                have L8 := L7.out.call (st' := r7) A (Keeps.of_below (S := [w.heap.size]) HB8.out) (L7.out.rd.keep (Keeps.of_below (S := []) HB8.out) L7.out.lt (by simp))
                exact ⟨_, sv, rfl, Or.inr ⟨(by simp), w8.heap.size, L8.kp.size, rfl, by simp only [block_at]⟩, fun _ => ⟨(L8.alloc A _).lb, (L8.alloc A _).own⟩, (L8.alloc A _).kp⟩
          · have h7' : decide (r7.2 < 0) = false := by simpa using h7
            have hval := vD h7
            have HV := hid hval
            clear hval vA vB vC vD
            go_wp2_with (first | (go_at_call 188; ((with_reducible refine (ok_any w.heap.size s r7.1 r7.2 _ L7.out.rd).mono ?_); rintro e w' ⟨rfl, rfl⟩)) | (go_at_call 159; ((with_reducible refine (fault_any _ _ _).mono ?_); rintro e w' ⟨rfl, rfl⟩)))
            go_ret
            rw [HV.out]
            exact ⟨_, sv, rfl, Or.inr ⟨(by simp), w7.heap.size, L7.out.kp.size, rfl, by simp only [block_at]⟩, fun _ => ⟨(L7.out.alloc A _).lb, (L7.out.alloc A _).own⟩, (L7.out.alloc A _).kp⟩
      · have hstop := lines_stop s.data.toList one.data.toList line (NN - c) st (Or.inl (by omega))
        have hall : linesS s.data.toList one.data.toList line NN r3 = (l, st) := by rw [HL.out, hstop]; simp
        rw [EN.out] at hall
        have HALL := hid hall
        clear hall hstop HL
        go_wp2_with (go_at_call 188; ((with_reducible refine (ok_any w.heap.size s st.1 st.2 _ L4.out.rd).mono ?_); rintro e w' ⟨rfl, rfl⟩))
        refine (must_any w.heap.size s st.1 st.2 [wSum, blank] wr.heap.size 2 2 _ (L4.out.alloc A _).rd hi4 hs rfl (by decide) (by have := L4.out.lt; omega) (by simp) ?_).mono ?_
        · intro j hj
          rw [cell_of_block (show (wr.alloc (.cells #[.string ⟨#[115, 117, 109]⟩, .string ⟨#[32]⟩] 9)).heap[wr.heap.size]? = some (.cells #[.string ⟨#[115, 117, 109]⟩, .string ⟨#[32]⟩] 9 (0, 0)) by simp only [block_at])]
          rcases (show j = 0 ∨ j = 1 by omega) with rfl | rfl <;> rfl
        rintro e w5 ⟨rfl, hR, hK⟩
        have L5 := hid ((L4.out.alloc A _).call A hK hR)
        have hi5 := must_le s.data.toList [[115, 117, 109], [32]] st (by rw [size_list]; exact hi4)
        rw [size_list] at hi5
        obtain ⟨r5, hr5⟩ : ∃ r, r = mustS s.data.toList [[115, 117, 109], [32]] st := ⟨_, rfl⟩
        rw [← hr5] at hi5
        rw [show mustS s.data.toList ([wSum, blank].map fun x => x.data.toList) (st.1, st.2) = r5 from hr5.symm] at L5
        have E5 := hid hr5
        clear hr5 hR hK
        have q5 := cell_of_block L5.out.rd 1
        simp at q5
        go_wp2_with fail
        refine (sixteen_any w.heap.size s r5.1 r5.2 _ L5.out.rd hi5 hs).mono ?_
        rintro e w6 ⟨rfl, hR, hK⟩
        have L6 := hid (L5.out.call A hK hR)
        have hi6 := sixteen_le s.data.toList r5 (by rw [size_list]; exact hi5)
        rw [size_list] at hi6
        obtain ⟨r6, hr6⟩ : ∃ r, r = sixteenS s.data.toList r5 := ⟨_, rfl⟩
        rw [show sixteenS s.data.toList (r5.1, r5.2) = r6 from hr6.symm] at L6 ⊢
        rw [← hr6] at hi6
        have E6 := hid hr6
        clear hr6 hR hK
        go_wp2_with fail
        refine (must_any w.heap.size s r6.2.1 r6.2.2 [wNl] w6.heap.size 1 1 _ (L6.out.alloc A _).rd hi6 hs rfl (by decide) (by have := L6.out.lt; omega) (by simp) ?_).mono ?_
        · intro j hj
          rw [cell_of_block (show (w6.alloc (.cells #[.string ⟨#[10]⟩] 9)).heap[w6.heap.size]? = some (.cells #[.string ⟨#[10]⟩] 9 (0, 0)) by simp only [block_at])]
          (have h0 : j = 0 := by omega); subst h0; rfl
        rintro e w7 ⟨rfl, hR, hK⟩
        have L7 := hid ((L6.out.alloc A _).call A hK hR)
        have hi7 := must_le s.data.toList [[10]] r6.2 (by rw [size_list]; exact hi6)
        rw [size_list] at hi7
        obtain ⟨r7, hr7⟩ : ∃ r, r = mustS s.data.toList [[10]] r6.2 := ⟨_, rfl⟩
        rw [← hr7] at hi7
        rw [show mustS s.data.toList ([wNl].map fun x => x.data.toList) (r6.2.1, r6.2.2) = r7 from hr7.symm] at L7
        have hval := read_val (by rw [size_list]; exact hlong) E1.out E2.out E3.out HALL.out E5.out E6.out hr7
        rw [← HQ.out, size_list] at hval
        obtain ⟨vA, vB, vC, vD⟩ := val_cases hval
        clear hval
        clear hr7 hR hK L5 L6
        have q7 := cell_of_block L7.out.rd 1
        have a7 := cell_of_block L7.out.rd 2
        simp at q7 a7
        by_cases h7 : r7.2 < 0
        · have h7' : decide (r7.2 < 0) = true := by simpa using h7
          by_cases h8 : r7.1 < s.size
          · have h8' : ((r7.1 : Int) < (s.size : Int)) := by omega
            have hval := vA h7 h8
            have HV := hid hval
            clear hval vA vB vC vD
            go_wp2_with (go_at_call 188; ((with_reducible refine (ok_any w.heap.size s r7.1 r7.2 _ L7.out.rd).mono ?_); rintro e w' ⟨rfl, rfl⟩))
            refine (wrong_any w.heap.size s r7.1 r7.2 r7.1 _ L7.out.rd).mono ?_
            rintro e w8 ⟨rfl, hR, hK⟩
            rw [if_pos h7] at hR
            have L8 := hid (L7.out.call (st' := (r7.1, (r7.1 : Int))) A hK hR)
            clear hR hK
            have a8 := cell_of_block L8.out.rd 2
            simp at a8
            have h9 : decide ((r7.1 : Int) < 0) = false := by simp
            have K8 := L8.out.kp
            go_wp2_with (first | (go_at_call 188; ((with_reducible refine (ok_any w.heap.size s r7.1 r7.1 _ L8.out.rd).mono ?_); rintro e w' ⟨rfl, rfl⟩)) | (go_at_call 159; ((with_reducible refine (fault_any _ _ _).mono ?_); rintro e w' ⟨rfl, rfl⟩)))
            go_ret
            rw [HV.out]
            exact ⟨_, sv, rfl, Or.inr ⟨(by simp), w8.heap.size, L8.out.kp.size, rfl, by simp only [block_at]⟩, fun _ => ⟨(L8.out.alloc A _).lb, (L8.out.alloc A _).own⟩, (L8.out.alloc A _).kp⟩
          · have h8' : ¬ ((r7.1 : Int) < (s.size : Int)) := by omega
            have hsum := fun w1 => sum_any (s.extract 0 st.1) (by have : (s.extract 0 st.1).data.toList.length ≤ s.data.toList.length := (by rw [sum_take]; simp; omega); rw [size_list, size_list] at this; omega) w1
            rw [sum_take] at hsum
            by_cases h9 : r6.1 = sumS (s.data.toList.take st.1)
            · have hval := vB h7 h8 h9
              have h9' : ((r6.1 : Int) != ((sumS (s.data.toList.take st.1) : Nat) : Int)) = false := by rw [h9]; simp
              have HV := hid hval
              clear hval vA vB vC vD
              go_wp2_with (go_at_call 188; ((with_reducible refine (ok_any w.heap.size s r7.1 r7.2 _ L7.out.rd).mono ?_); rintro e w' ⟨rfl, rfl⟩))
              refine (hsum _).mono ?_
              rintro e w8 ⟨rfl, hb⟩
              have HB8 := hid hb
              clear hb
              go_wp2_with fail
              go_ret
              rw [HV.out]
              have L8 := L7.out.call (st' := r7) A (Keeps.of_below (S := [w.heap.size]) HB8.out) (L7.out.rd.keep (Keeps.of_below (S := []) HB8.out) L7.out.lt (by simp))
              exact ⟨_, sv, rfl, Or.inl ⟨rfl, rfl⟩, fun _ => ⟨L8.lb, L8.own⟩, L8.kp⟩
            · have hval := vC h7 h8 h9
              have h9' : ((r6.1 : Int) != ((sumS (s.data.toList.take st.1) : Nat) : Int)) = true := by simp; omega
              have HV := hid hval
              clear hval vA vB vC vD
              go_wp2_with (go_at_call 188; ((with_reducible refine (ok_any w.heap.size s r7.1 r7.2 _ L7.out.rd).mono ?_); rintro e w' ⟨rfl, rfl⟩))
              refine (hsum _).mono ?_
              rintro e w8 ⟨rfl, hb⟩
              have HB8 := hid hb
              clear hb
              go_wp2_with (go_at_call 159; ((with_reducible refine (fault_any _ _ _).mono ?_); rintro e w' ⟨rfl, rfl⟩))
              go_ret
              rw [HV.out]
              have L8 := L7.out.call (st' := r7) A (Keeps.of_below (S := [w.heap.size]) HB8.out) (L7.out.rd.keep (Keeps.of_below (S := []) HB8.out) L7.out.lt (by simp))
              exact ⟨_, sv, rfl, Or.inr ⟨(by simp), w8.heap.size, L8.kp.size, rfl, by simp only [block_at]⟩, fun _ => ⟨(L8.alloc A _).lb, (L8.alloc A _).own⟩, (L8.alloc A _).kp⟩
        · have h7' : decide (r7.2 < 0) = false := by simpa using h7
          have hval := vD h7
          have HV := hid hval
          clear hval vA vB vC vD
          go_wp2_with (first | (go_at_call 188; ((with_reducible refine (ok_any w.heap.size s r7.1 r7.2 _ L7.out.rd).mono ?_); rintro e w' ⟨rfl, rfl⟩)) | (go_at_call 159; ((with_reducible refine (fault_any _ _ _).mono ?_); rintro e w' ⟨rfl, rfl⟩)))
          go_ret
          rw [HV.out]
          exact ⟨_, sv, rfl, Or.inr ⟨(by simp), w7.heap.size, L7.out.kp.size, rfl, by simp only [block_at]⟩, fun _ => ⟨(L7.out.alloc A _).lb, (L7.out.alloc A _).own⟩, (L7.out.alloc A _).kp⟩
end
section
open Go.RowKit


def firstBad : List Int → Int
  | [] => 0
  | c :: r => if c = 0 then firstBad r else c
def elChkS (x : El) : Int := elChk x.1 x.2.1.1 x.2.1.2 x.2.2.1.1 x.2.2.1.2 x.2.2.2
def flowChk (l : List El) : Int := if 256 < l.length then 7 else firstBad (l.map elChkS)
theorem own_form {w : World} {B0 E size n : Nat} {sv : Value} {xs : List Value} (h : w.ownsRow B0 E size sv n xs) : ∃ a cap, sv = .slice a n cap ∧ (0 < n → ∃ g, a = some ⟨g, 0, none⟩ ∧ ∀ i, i < xs.length → w.cell? ⟨g, i, none⟩ = xs[i]?) := by
  rcases h.2 with ⟨rfl, rfl⟩ | ⟨g, cap, cur, rfl, hg, hb, h1, h2, h3, h4⟩
  · exact ⟨none, 0, rfl, fun h => by omega⟩
  · refine ⟨some ⟨g, 0, none⟩, cap, rfl, fun _ => ⟨g, rfl, fun i hi => ?_⟩⟩
    rw [cell_of_block hb]
    have hx := h.1
    rw [← h4, List.getElem?_take_of_lt (by omega)]
    simp
theorem flat_at {α : Type} (f : α → List Value) (m : Nat) (hf : ∀ x, (f x).length = m) : ∀ (l : List α) (k j : Nat) (x : α), l[k]? = some x → j < m → (l.flatMap f)[k * m + j]? = (f x)[j]? := by
  intro l
  induction l with
  | nil => intro k j x h; simp at h
  | cons y l ih =>
    intro k j x h hj
    cases k with
    | zero =>
      simp at h
      subst h
      rw [List.flatMap_cons, List.getElem?_append_left (by rw [hf]; omega)]
      simp
    | succ k =>
      rw [List.flatMap_cons, List.getElem?_append_right (by rw [hf, Nat.succ_mul]; omega), hf, show (k + 1) * m + j - m = k * m + j by rw [Nat.succ_mul]; omega]
      exact ih k j x (by simpa using h) hj
theorem firstBad_append (a b : List Int) (h : ∀ c ∈ a, c = 0) : firstBad (a ++ b) = firstBad b := by
  induction a with
  | nil => rfl
  | cons c a ih =>
    rw [List.cons_append, firstBad, if_pos (h c (by simp))]
    exact ih (fun x hx => h x (by simp [hx]))
theorem firstBad_split (l : List Int) (k : Nat) (c : Int) (hk : l[k]? = some c) (h : ∀ j, j < k → l[j]? = some 0) : firstBad l = if c = 0 then firstBad (l.drop (k + 1)) else c := by
  have hlt : k < l.length := by
    rcases Nat.lt_or_ge k l.length with h | h
    · exact h
    · rw [List.getElem?_eq_none h] at hk; cases hk
  have e : l = l.take k ++ c :: l.drop (k + 1) := by
    have := List.getElem?_eq_some_iff.1 hk
    obtain ⟨h1, h2⟩ := this
    rw [← h2, List.getElem_cons_drop, List.take_append_drop]
  rw [e, firstBad_append]
  · rw [firstBad, ← e]
  · intro x hx
    obtain ⟨j, hj, rfl⟩ := List.getElem_of_mem hx
    rw [List.getElem_take]
    have hj' : j < k := by simp at hj; omega
    have := h j hj'
    rw [List.getElem?_eq_getElem (by omega)] at this
    exact Option.some.inj this
theorem firstBad_all (l : List Int) (h : ∀ j, j < l.length → l[j]? = some 0) : firstBad l = 0 := by
  have := firstBad_append l [] (fun c hc => by
    obtain ⟨j, hj, rfl⟩ := List.getElem_of_mem hc
    have := h j hj
    rw [List.getElem?_eq_getElem hj] at this
    exact Option.some.inj this)
  rw [List.append_nil] at this
  rw [this]; rfl
/-- The bits are 64. -/
theorem el_len (l : List El) : (l.flatMap elCells).length = 4 * l.length := by
  induction l with
  | nil => rfl
  | cons x l ih => simp only [List.flatMap_cons, List.length_append, List.length_cons, ih]; show 4 + _ = _; omega
theorem cells_below {a : Option Addr} {l : List El} {w w1 : World} (hcells : 0 < l.length → ∃ g, a = some ⟨g, 0, none⟩ ∧ ∀ i, i < (l.flatMap elCells).length → w.cell? ⟨g, i, none⟩ = (l.flatMap elCells)[i]?) (h : Below w.heap.size w w1) : 0 < l.length → ∃ g, a = some ⟨g, 0, none⟩ ∧ ∀ i, i < (l.flatMap elCells).length → w1.cell? ⟨g, i, none⟩ = (l.flatMap elCells)[i]? := by
  intro h0
  obtain ⟨g, e, hc⟩ := hcells h0
  refine ⟨g, e, fun i hi => ?_⟩
  have h1 := hc i hi
  rw [List.getElem?_eq_getElem hi] at h1
  rw [← List.getElem?_eq_getElem hi] at h1
  exact (World.cell?_of_block (w := w) (h.block g (World.block_lt_of_cell? _ _ (h1.trans (List.getElem?_eq_getElem hi))))).trans h1
def fits (n : Nat) : Prop := n < 18446744073709551616
set_option maxRecDepth 100000 in
set_option maxHeartbeats 8000000 in
theorem flow_check (l : List El) (hp : ∀ x ∈ l, fits x.2.2.2) (a : Option Addr) (cap : Nat) (w : World) (hcells : 0 < l.length → ∃ g, a = some ⟨g, 0, none⟩ ∧ ∀ i, i < (l.flatMap elCells).length → w.cell? ⟨g, i, none⟩ = (l.flatMap elCells)[i]?) (hn : l.length ≤ 70000) :
    Calls Tryz.prog 22 #[.agg #[.slice a l.length cap]] w fun e w' => e = .returned (.int .i64 (flowChk l)) ∧ Below w.heap.size w w' := by
  have HC := hid hcells
  clear hcells
  unfold flowChk
  by_cases hlen : 256 < l.length
  · rw [if_pos hlen]
    go_enter Tryz.func22, Tryz.ntmps22
    go_wp2_with fail
    go_ret
    exact ⟨rfl, Below.alloc (Below.refl _ _) (Nat.le_refl _) _⟩
  · rw [if_neg hlen]
    obtain ⟨Q, hQ⟩ : ∃ Q, Q = firstBad (l.map elChkS) := ⟨_, rfl⟩
    rw [← hQ]
    have HQ := hid hQ
    clear hQ
    go_enter Tryz.func22, Tryz.ntmps22
    go_wp2_with fail
    go_loopw [13] (fun t wr => ∃ k : Nat, t = .int .i64 k ∧ k ≤ l.length ∧ Below w.heap.size w wr ∧ Hid (∀ j, j < k → (l.map elChkS)[j]? = some 0)) (fun t _ => l.length - (intOf t).toNat)
    case atStart => exact ⟨0, rfl, Nat.zero_le _, Below.alloc (Below.refl _ _) (Nat.le_refl _) _, hid (fun j hj => by omega)⟩
    case round =>
      obtain ⟨k, rfl, hk, hb, hall⟩ := hrel
      by_cases hkn : k < l.length
      · obtain ⟨g, rfl, hce⟩ := HC.out (by omega)
        have hx : l[k]? = some l[k] := List.getElem?_eq_getElem hkn
        have hpx := hp l[k] (List.getElem_mem hkn)
        obtain ⟨x, hxx⟩ : ∃ x, x = l[k] := ⟨_, rfl⟩
        rw [← hxx] at hx hpx
        have hlenx : (l.flatMap elCells).length = 4 * l.length := el_len l
        have hcw : ∀ j, j < 4 → wr.cell? ⟨g, k * 4 + j, none⟩ = (elCells x)[j]? := fun j hj => by
          have h1 := hce (k * 4 + j) (by rw [hlenx]; omega)
          rw [flat_at elCells 4 (fun _ => rfl) l k j x hx hj] at h1
          rw [← h1]
          exact (Keeps.of_below (S := []) hb).cell (q := ⟨g, k * 4 + j, none⟩) (World.block_lt_of_cell? _ _ (h1.trans (List.getElem?_eq_getElem (by exact hj)))) (by simp)
        have c0 : wr.cell? ⟨g, k * 4, none⟩ = some (.int .u8 x.1) := hcw 0 (by omega)
        have c1 : wr.cell? ⟨g, k * 4 + 1, none⟩ = some (.complex .f64 x.2.1.1 x.2.1.2) := hcw 1 (by omega)
        have c2 : wr.cell? ⟨g, k * 4 + 2, none⟩ = some (.complex .f64 x.2.2.1.1 x.2.2.1.2) := hcw 2 (by omega)
        have c3 : wr.cell? ⟨g, k * 4 + 3, none⟩ = some (.float .f64 x.2.2.2) := hcw 3 (by omega)
        have hglt := World.block_lt_of_cell? _ _ c0
        haveI : Has wr g := ⟨hglt⟩
        clear hcw hce hxx
        have hsz := hb.size
        have HB := hid hb
        have hmk : (l.map elChkS)[k]? = some (elChkS x) := by rw [List.getElem?_map, hx]; rfl
        by_cases hz : elChkS x = 0
        · have hall' : Hid (∀ j, j < k + 1 → (l.map elChkS)[j]? = some 0) := hid (fun j hj => by
            rcases Nat.lt_or_eq_of_le (Nat.le_of_lt_succ hj) with h | rfl
            · exact hall.out j h
            · rw [hmk, hz])
          clear hall hmk hx hb
          go_wp2_with fail
          refine (elcheck_any x.1 x.2.1.1 x.2.1.2 x.2.2.1.1 x.2.2.1.2 x.2.2.2 hpx _).mono ?_
          rintro e w' ⟨rfl, hb2⟩
          rw [show elChk x.1 x.2.1.1 x.2.1.2 x.2.2.1.1 x.2.2.1.2 x.2.2.2 = 0 from hz]
          go_wp2_with fail
          go_roundw
          case rel => exact ⟨k + 1, by rfl, by omega, HB.out.trans ((Below.alloc (Below.refl _ _) (Nat.le_refl _) _ |>.trans (hb2.mono (by simp))).mono hsz), hall'⟩
          case measure => simp [intOf]; omega
        · have hq := firstBad_split (l.map elChkS) k _ hmk hall.out
          rw [if_neg hz, ← HQ.out] at hq
          have hz' : (elChk x.1 x.2.1.1 x.2.1.2 x.2.2.1.1 x.2.2.1.2 x.2.2.2 != 0) = true := by simpa [elChkS] using hz
          have HQ2 := hid hq
          clear hall hmk hx hb hq
          go_wp2_with fail
          refine (elcheck_any x.1 x.2.1.1 x.2.1.2 x.2.2.1.1 x.2.2.1.2 x.2.2.2 hpx _).mono ?_
          rintro e w' ⟨rfl, hb2⟩
          go_wp2_with fail
          go_ret
          exact ⟨by rw [HQ2.out]; rfl, HB.out.trans ((Below.alloc (Below.refl _ _) (Nat.le_refl _) _ |>.trans (hb2.mono (by simp))).mono hsz)⟩
      · obtain rfl : k = l.length := by omega
        have hfin := firstBad_all (l.map elChkS) (fun j hj => hall.out j (by simpa using hj))
        have HF := hid hfin
        clear hfin hall
        go_wp2_with fail
        go_ret
        exact ⟨by rw [HQ.out, HF.out]; rfl, hb⟩
end
section
open Go.RowKit


theorem run_makeFunc (fn : Fn) (first cap : Array Value) (w : World) : (Instr.makeFunc fn first cap).run Tryz.prog w = .ok (.func fn first cap) w := rfl
theorem elem_b (l : By) (st : St) : (elemS l st).2 = (floatS l (mustS l [[32]] (numS l (mustS l [[32]] (numS l (mustS l [[32]] (wholeS l 8 st).2)).2)).2)).2 := by
  simp only [elemS]
theorem elem_le (s : ByteArray) (st : St) (h : st.1 ≤ s.size) : (elemS s.data.toList st).2.1 ≤ s.size := by
  have h0 : st.1 ≤ s.data.toList.length := by rw [size_list]; exact h
  have h1 := whole_le s.data.toList 8 st h0
  have h2 := must_le s.data.toList [[32]] _ h1
  have h3 := num_le s.data.toList _ h2
  have h4 := must_le s.data.toList [[32]] _ h3
  have h5 := num_le s.data.toList _ h4
  have h6 := must_le s.data.toList [[32]] _ h5
  have h7 := float_le s.data.toList _ h6
  rw [← size_list, elem_b]
  exact h7
theorem whole8_le (l : By) (st : St) (h : st.1 ≤ l.length) : (wholeS l 8 st).2.1 ≤ l.length := whole_le l 8 st h
theorem trac_a (l : By) (st : St) (h0 : st.1 ≤ l.length) : (mustS l [[32]] (floatS l (mustS l [[32]] (numS l st).2)).2).1 ≤ l.length := by
  have h1 := num_le l st h0
  have h2 := must_le l [[32]] _ h1
  have h3 := float_le l _ h2
  exact must_le l [[32]] _ h3
theorem trac_b (l : By) (st : St) : (tracS l st).2 = (wholeS l 8 (mustS l [[32]] (floatS l (mustS l [[32]] (numS l st).2)).2)).2 := by
  unfold tracS
  rfl
theorem trac_le0 (l : By) (st : St) (h0 : st.1 ≤ l.length) : (tracS l st).2.1 ≤ l.length := by
  rw [trac_b]
  exact whole8_le l _ (trac_a l st h0)
theorem trac_le (s : ByteArray) (st : St) (h : st.1 ≤ s.size) : (tracS s.data.toList st).2.1 ≤ s.size := by
  have := trac_le0 s.data.toList st (by rw [size_list]; exact h)
  rwa [size_list] at this
theorem whir_le (s : ByteArray) (st : St) (h : st.1 ≤ s.size) : (whirS s.data.toList st).2.1 ≤ s.size := by
  have h0 : st.1 ≤ s.data.toList.length := by rw [size_list]; exact h
  have := float_le _ _ (must_le s.data.toList [[32]] _ (num_le s.data.toList st h0))
  rw [size_list] at this
  exact this
set_option maxRecDepth 100000 in
theorem lawF (s : ByteArray) (hs : s.size ≤ 70000) : Law 158 239 38 4 s (elemS s.data.toList) elCells elW :=
  ⟨fun _ _ => by kernel_rfl, fun rb i a LB B0 n sv xs w h1 h2 h3 h4 h5 h6 h7 h8 => lineF_any rb s i a LB B0 n sv xs w h1 h2 hs h3 h4 h5 h6 h7 h8, elem_le s, elem_ok _⟩
theorem sixteen_fits (s : By) (st : St) : fits (sixteenS s st).1 := by
  unfold sixteenS fits
  split
  · simp only []
    split
    · rename_i h
      have := hexV_lt (runS s isHex 16 st.1) (run_all s isHex 16 st.1)
      rw [h] at this
      have e : (16 : Nat) ^ 16 = 18446744073709551616 := by decide
      show hexV (runS s isHex 16 st.1) < _
      omega
    · show (0 : Nat) < _; omega
  · show (0 : Nat) < _; omega
theorem float_fits (s : By) (st : St) : fits (floatS s st).1 := by
  unfold floatS
  simp only []
  split <;> exact sixteen_fits s st
theorem lines_all {α : Type} {s one : By} {line : St → α × St} {P : α → Prop} (h : ∀ st, P (line st).1) : ∀ (k : Nat) (st : St), ∀ x ∈ (linesS s one line k st).1, P x := by
  intro k
  induction k with
  | zero => intro st x hx; cases hx
  | succ k ih =>
    intro st x hx
    by_cases h0 : st.2 < 0
    · simp only [linesS, if_pos h0, List.mem_cons] at hx
      rcases hx with rfl | hx
      · exact h _
      · exact ih _ x hx
    · simp only [linesS, if_neg h0] at hx
      cases hx
theorem read_all {α : Type} {s kind word one : By} {line : St → α × St} {P : α → Prop} (h : ∀ st, P (line st).1) : ∀ x ∈ (readS s kind word one line).1, P x := by
  unfold readS
  split
  · intro x hx; cases hx
  · simp only []
    split
    · split <;> exact lines_all h _ _
    · exact lines_all h _ _
/-- What the given program's readers tell: the list, the fault's code and place. -/
def flowR (s : By) : List El × Int × Int :=
  if (readF s).2.1 = 0 then (if flowChk (readF s).1 = 0 then ((readF s).1, 0, 0) else ([], flowChk (readF s).1, 0)) else ([], (readF s).2)
def kFlow : ByteArray := ⟨#[102, 108, 111, 119]⟩
def kElements : ByteArray := ⟨#[101, 108, 101, 109, 101, 110, 116, 115]⟩
def kElement : ByteArray := ⟨#[101, 108, 101, 109, 101, 110, 116]⟩
def kTracers : ByteArray := ⟨#[116, 114, 97, 99, 101, 114, 115]⟩
def kTracer : ByteArray := ⟨#[116, 114, 97, 99, 101, 114]⟩
def kWhirls : ByteArray := ⟨#[119, 104, 105, 114, 108, 115]⟩
def kWhirl : ByteArray := ⟨#[119, 104, 105, 114, 108]⟩
theorem Told.alloc {w w' : World} {c p : Int} {v : Value} (h : Told w c p v w') (o : Obj) : Told w c p v (w'.alloc o) := by
  rcases h with h | ⟨hc, g, h1, h2, h3⟩
  · exact .inl h
  · exact .inr ⟨hc, g, h1, h2, (Below.heap_alloc w' o g (lt_of_block h3)).trans h3⟩
theorem own_mono {w : World} {B B0 E size n : Nat} {sv : Value} {xs : List Value} (h : w.ownsRow B E size sv n xs) (hB : B0 ≤ B) : w.ownsRow B0 E size sv n xs := by
  refine ⟨h.1, ?_⟩
  rcases h.2 with h2 | ⟨g, cap, cur, rfl, hg, r⟩
  · exact .inl h2
  · exact .inr ⟨g, cap, cur, rfl, Nat.le_trans hB hg, r⟩
theorem own_nil (w : World) (B0 E size : Nat) : w.ownsRow B0 E size (.slice none 0 0) 0 [] := ⟨by simp, .inl ⟨rfl, rfl⟩⟩
set_option maxRecDepth 100000 in
set_option maxHeartbeats 8000000 in
theorem readF_any (s : ByteArray) (hs : s.size ≤ 70000) (w : World) (V : Vars w) (h40 : 10 ≤ w.heap.size) :
    Calls Tryz.prog 111 #[.string s] w fun e w' => ∃ sv v, e = .returned (.tuple #[.agg #[sv], v]) ∧ Told w (flowR s.data.toList).2.1 (flowR s.data.toList).2.2 v w' ∧
      w'.ownsRow w.heap.size 38 4 sv (flowR s.data.toList).1.length ((flowR s.data.toList).1.flatMap elCells) ∧ Below w.heap.size w w' := by
  have hmf := run_makeFunc
  have hV : Hid (Vars ((w.alloc (.cells #[.slice none 0 0] 29)).alloc (.cells #[.slice none 0 0] 239))) := hid (V.keep (B := w.heap.size) (S := []) (((Keeps.refl _ _ _).alloc (Nat.le_refl _) _).alloc (by simp) _) h40 (by simp))
  obtain ⟨Q, hQ⟩ : ∃ Q, Q = flowR s.data.toList := ⟨_, rfl⟩
  rw [← hQ]
  unfold flowR at hQ
  have HQ := hid hQ
  clear hQ V
  go_enter Tryz.func111, Tryz.ntmps111
  go_wp2_with fail
  refine (read_any 158 239 38 4 s kFlow kElements kElement (elemS s.data.toList) elCells elW (lawF s hs) hs (w.heap.size + 1) _ hV.out (by decide) (by decide) (by simp only [block_at]) (by omega)).mono ?_
  rintro e wq ⟨v, sv, rfl, hT, hrow, hK⟩
  rw [show readS s.data.toList kFlow.data.toList kElements.data.toList kElement.data.toList (elemS s.data.toList) = readF s.data.toList from rfl] at hT hrow
  obtain ⟨R, hR⟩ : ∃ R, R = readF s.data.toList := ⟨_, rfl⟩
  have hro := readF_ok (s := s.data.toList)
  have hfit : ∀ x ∈ (readF s.data.toList).1, fits x.2.2.2 := read_all (fun st => by unfold elemS; exact float_fits _ _)
  rw [← hR] at hT hrow hro hfit
  have hqv := HQ.out
  rw [← hR] at hqv
  clear hR
  have hbq : Below w.heap.size w wq := Keeps.below (Keeps.trans (((Keeps.refl w.heap.size [] w).alloc (Nat.le_refl _) _).alloc (by simp) _) (hK.mono (by simp; omega) (fun k hk h => by simp at h; omega)))
  have hb0 : wq.heap[w.heap.size]? = some (.cells #[.slice none 0 0] 29 (0, 0)) := (hK.block w.heap.size (by simp; omega) (by simp)).trans (by simp only [block_alloc', block_at])
  have r0 := cell_of_block hb0 0
  have rf := free_of_block hb0 0
  simp at r0
  haveI : Has wq w.heap.size := ⟨lt_of_block hb0⟩
  have hszq := hbq.size
  rcases hT with ⟨hc, rfl⟩ | ⟨hc, g, hg, rfl, hgb⟩
  · obtain ⟨hl1, hl2, -⟩ := hro hc
    rw [size_list] at hl1 hl2
    rw [if_pos hc] at hqv
    obtain ⟨hlb, hown⟩ := hrow hl1
    obtain ⟨sa, scap, rfl, hcl⟩ := own_form hown
    have l0 := cell_of_block hlb 0
    simp at l0
    haveI : Has wq (w.heap.size + 1) := ⟨lt_of_block hlb⟩
    have HB := hid hbq
    have OWN := hid hown
    clear hbq hlb hrow hK hown
    have hck := flow_check R.1 hfit sa scap wq hcl (by omega)
    have HCK := hid hck
    clear hck
    by_cases hz : flowChk R.1 = 0
    · rw [if_pos hz] at hqv
      have HV := hid hqv
      clear hqv
      rw [hz] at HCK
      go_wp2_with fail
      refine HCK.out.mono ?_
      rintro e w2 ⟨rfl, hb2⟩
      have k0 : w2.cell? ⟨w.heap.size + 1, 0, none⟩ = some (.slice sa R.1.length scap) := ((Keeps.of_below (S := []) hb2).cell (q := ⟨w.heap.size + 1, 0, none⟩) Has.lt (by simp)).trans l0
      have k1 := (hb2.block w.heap.size Has.lt).trans hb0
      have k2 := cell_of_block k1 0
      have k3 := free_of_block k1 0
      simp at k2
      haveI : Has w2 w.heap.size := ⟨lt_of_block k1⟩
      have HB2 := hid hb2
      clear hb2
      have OW2 := own_keeps OWN.out (Keeps.of_below (S := []) HB2.out) (Nat.le_refl _) (by simp)
      go_wp2_with fail
      refine bodyPost_ret (v := .tuple #[.agg #[.slice sa R.1.length scap], .nilIface]) (by simp [results, Tryz.results7, go_sem, k2]) rfl ⟨_, _, rfl, ?_, ?_, ?_⟩
      · rw [HV.out]; exact .inl ⟨rfl, rfl⟩
      · rw [HV.out]
        exact own_set (own_mono OW2 (by simp; omega)) (own_ne OW2 k1 (by decide))
      · exact (HB.out.trans (HB2.out.mono HB.out.size)).setCell (Nat.le_refl _) _
    · have hz' : (flowChk R.1 != 0) = true := by simpa using hz
      rw [if_neg hz] at hqv
      have HV := hid hqv
      clear hqv
      go_wp2_with fail
      refine HCK.out.mono ?_
      rintro e w2 ⟨rfl, hb2⟩
      have k1 := (hb2.block w.heap.size Has.lt).trans hb0
      have k2 := cell_of_block k1 0
      have k3 := free_of_block k1 0
      simp at k2
      haveI : Has w2 w.heap.size := ⟨lt_of_block k1⟩
      have HB2 := hid hb2
      have hlt2 : w.heap.size < w2.heap.size := lt_of_block k1
      clear hb2 k1
      go_wp2_with (go_at_call 159; ((with_reducible refine (fault_any _ _ _).mono ?_); rintro e w' ⟨rfl, rfl⟩))
      refine bodyPost_ret (v := .tuple #[.agg #[.slice none 0 0], .iface 93 (.pointer (some ⟨w2.heap.size, 0, none⟩))]) (by simp [results, Tryz.results7, go_sem, k2]) rfl ⟨_, _, rfl, ?_, ?_, ?_⟩
      · rw [HV.out]
        refine .inr ⟨hz, w2.heap.size, Nat.le_trans HB.out.size HB2.out.size, rfl, ?_⟩
        simp only [block_at]
      · rw [HV.out]; exact own_nil _ _ _ _
      · exact ((HB.out.trans (HB2.out.mono HB.out.size)).setCell (Nat.le_refl _) _).alloc (by rw [World.size_setCell]; exact Nat.le_trans HB.out.size HB2.out.size) _
  · rw [if_neg hc] at hqv
    have HV := hid hqv
    have HB := hid hbq
    clear hqv hbq hK hrow
    go_wp2_with fail
    refine bodyPost_ret (v := .tuple #[.agg #[.slice none 0 0], .iface 93 (.pointer (some ⟨g, 0, none⟩))]) (by simp [results, Tryz.results7, go_sem, r0]) rfl ⟨_, _, rfl, ?_, ?_, ?_⟩
    · rw [HV.out]
      refine .inr ⟨hc, g, by simp at hg; omega, rfl, ?_⟩
      exact (block_ne _ _ _ _ _ (by simp at hg; omega)).trans hgb
    · rw [HV.out]; exact own_nil _ _ _ _
    · exact HB.out.setCell (Nat.le_refl _) _
end
section
open Go.RowKit


theorem ba_eq {x : ByteArray} {l : By} (h : x.data.toList = l) : x = ⟨l.toArray⟩ := by
  subst h; cases x; simp
theorem ba_append (x y : ByteArray) : (x ++ y).data.toList = x.data.toList ++ y.data.toList := by simp
theorem repeatL_one (c : UInt8) (n : Nat) : Lib.repeatL [c] n = List.replicate n c := by
  induction n with
  | zero => rfl
  | succ n ih => simp [Lib.repeatL, List.replicate_succ, ← ih]
set_option maxRecDepth 100000 in
set_option maxHeartbeats 4000000 in
theorem sixteen_w (n : Nat) (hn : fits n) (w : World) (V : Vars w) (h40 : 10 ≤ w.heap.size) :
    Calls Tryz.prog 97 #[.int .u64 n] w fun e w' => e = .returned (.string ⟨(hexW 16 n).toArray⟩) ∧ Below w.heap.size w w' := by
  obtain ⟨h1, h2⟩ := hexM_pad 16 n (by omega) (by have e : (16 : Nat) ^ 16 = 18446744073709551616 := by decide
                                                  rw [e]; exact hn)
  have hf := format_94 n hn w V h40
  rw [← h2]
  obtain ⟨m, hm⟩ : ∃ m, m = hexM n := ⟨_, rfl⟩
  rw [← hm] at h1 hf ⊢
  obtain ⟨t, ht⟩ : ∃ t : ByteArray, t = ⟨m.toArray⟩ := ⟨_, rfl⟩
  rw [← ht] at hf
  have hts : t.size = m.length := by rw [ht]; simp [ByteArray.size]
  have hts16 : t.size ≤ 16 := by omega
  have hrep := fun w1 => Tryz.strings_Repeat ⟨#[48]⟩ (16 - t.size) w1 (by omega) (by show 1 * _ ≤ _; omega)
  obtain ⟨r, hr⟩ : ∃ r : ByteArray, r = ⟨(Lib.repeatL [48] (16 - t.size)).toArray⟩ := ⟨_, rfl⟩
  have hrl : r.data.toList = Lib.repeatL [48] (16 - t.size) := by rw [hr]
  rw [← hr] at hrep
  have hrs : r.size = 16 - t.size := by rw [← size_list, hrl, repeatL_one]; simp
  have hcat : (9223372036854775807 < r.size + t.size) = False := by simp; omega
  have HRL := hid hrl
  have hsub : (16 : Int) - (t.size : Int) = ((16 - t.size : Nat) : Int) := by omega
  have HT := hid ht
  have HS := hid hts
  have HF := hid hf
  clear ht hts hm hf h1 hr hrl hrs
  go_enter Tryz.func97, Tryz.ntmps97
  go_wp2_with fail
  refine HF.out.mono ?_
  rintro e w1 ⟨rfl, hb1⟩
  have HB1 := hid hb1
  clear hb1
  go_wp2_with fail
  refine (hrep w1).mono ?_
  rintro e w2 ⟨rfl, hb2⟩
  have HB2 := hid hb2
  clear hb2 hrep
  go_wp2_with fail
  go_ret
  refine ⟨?_, HB1.out.trans (HB2.out.mono HB1.out.size)⟩
  refine congrArg Ending.returned (congrArg Value.string ?_)
  refine ba_eq ?_
  rw [ba_append, HRL.out, repeatL_one, HT.out]
  simp [ByteArray.size]
end
end Go.Proofs.YtmjpfoninpbgiaaGreatDoor
