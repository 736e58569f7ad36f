/- The reading of a save, of the given program. -/
import Derived.Test.YtnagagcgmfkjjaaGreatDoorM
set_option linter.unusedSimpArgs false
set_option linter.unusedVariables false
namespace Go.Proofs.YtnagagcgmfkjjaaGreatDoor
open Go.RowKit

/-- A save is read: the reader, the row of what was read. -/
structure Rs (w0 : World) (B0 LB rb : Nat) (s : ByteArray) (st : St) (T E size n : Nat) (xs : List Value) (sv : Value) (w : World) : Prop where
  rd : Rd w rb s st.1 st.2
  lb : w.heap[LB]? = some (.cells #[sv] T (0, 0))
  own : w.ownsRow B0 E size sv n xs
  kp : Keeps B0 [LB] w0 w
structure At0 (w0 : World) (B0 LB rb : Nat) (T E : Nat) : Prop where
  l40 : 8 ≤ LB
  lb : LB < B0
  br : B0 ≤ rb
  t1 : T ≠ E
  t2 : 90 ≠ E
section
variable {w0 w w' : World} {B0 LB rb T E size n : Nat} {s : ByteArray} {st st' : St} {sv : Value} {xs : List Value}
theorem Rs.lt (R : Rs w0 B0 LB rb s st T E size n xs sv w) : rb < w.heap.size := lt_of_block R.rd
theorem Rs.at (R : Rs w0 B0 LB rb s st T E size n xs sv w) (A : At0 w0 B0 LB rb T E) : At w B0 LB rb T E := ⟨A.l40, A.lb, A.br, R.lt, A.t1, A.t2⟩
theorem Rs.alloc (R : Rs w0 B0 LB rb s st T E size n xs sv w) (A : At0 w0 B0 LB rb T E) (o : Obj) : Rs w0 B0 LB rb s st T E size n xs sv (w.alloc o) :=
  ⟨R.rd.alloc _, (Below.heap_alloc w _ LB (lt_of_block R.lb)).trans R.lb, own_keeps R.own (Keeps.alloc (Keeps.refl w.heap.size [] w) (Nat.le_refl _) _) (Nat.le_refl _) (by simp), R.kp.alloc (by have := R.lt; have := A.br; omega) _⟩
theorem Rs.call (R : Rs w0 B0 LB rb s st T E size n xs sv w) (A : At0 w0 B0 LB rb T E) (k : Keeps w.heap.size [rb] w w') (h : Rd w' rb s st'.1 st'.2) : Rs w0 B0 LB rb s st' T E size n xs sv w' := by
  have hr := R.lt; have hb := A.br; have hl := A.lb
  refine ⟨h, (k.block LB (lt_of_block R.lb) (by simp; omega)).trans R.lb, own_keeps R.own k (Nat.le_refl _) (fun g hg => ?_), R.kp.trans (k.mono (by omega) (fun j hj hm => by simp at hm; omega))⟩
  simp only [List.mem_cons, List.not_mem_nil, or_false]
  exact fun e => own_ne R.own R.rd A.t2 (by rw [hg, e])
end
/-- What a reader of lines is to do. -/
structure Law (K T E size : Nat) {α : Type} (s : ByteArray) (line : St → α × St) (cells : α → List Value) (wr : α → By) : Prop where
  enter : ∀ args w, (callFunc K args).run Tryz.prog w = .ok (.enter K args) w
  does : ∀ (rb i : Nat) (a : Int) (LB B0 n : Nat) (sv : Value) (xs : List Value) (w : World), Rd w rb s i a → i ≤ s.size → At w B0 LB rb T E → w.heap[LB]? = some (.cells #[sv] T (0, 0)) → w.ownsRow B0 E size sv n xs → n ≤ 70000 → Vars w → 8 ≤ B0 →
    Calls Tryz.prog K #[.pointer (some ⟨LB, 0, none⟩), .pointer (some ⟨rb, 0, none⟩)] w (LinePost B0 LB rb s (line (i, a)).2 T E size n xs (cells (line (i, a)).1) w)
  le : ∀ st : St, st.1 ≤ s.size → (line st).2.1 ≤ s.size
  ok : LineOk s.data.toList line wr
/-- How the reading of a save ends: nothing wrong, or a fault in a block of its own. -/
def Told (w : World) (c p : Int) (v : Value) (w' : World) : Prop :=
  (c = 0 ∧ v = .nilIface) ∨ (c ≠ 0 ∧ ∃ g, w.heap.size ≤ g ∧ v = .iface 121 (.pointer (some ⟨g, 0, none⟩)) ∧ w'.heap[g]? = some (.cells #[.int .i64 c, .int .i64 p] 41 (0, 0)))
def wEddy : ByteArray := ⟨#[101, 100, 100, 121]⟩
def wOne : ByteArray := ⟨#[49]⟩
def wNl : ByteArray := ⟨#[10]⟩
def wSum : ByteArray := ⟨#[115, 117, 109]⟩
theorem lines_step {α : Type} (s one : By) (line : St → α × St) (k : Nat) (st : St) (h : st.2 < 0) :
    linesS s one line (k + 1) st = ((line (mustS s [one, [32]] st)).1 :: (linesS s one line k (mustS s [[10]] (line (mustS s [one, [32]] st)).2)).1, (linesS s one line k (mustS s [[10]] (line (mustS s [one, [32]] st)).2)).2) := by
  simp only [linesS, if_pos h]
theorem lines_stop {α : Type} (s one : By) (line : St → α × St) (k : Nat) (st : St) (h : k = 0 ∨ ¬ st.2 < 0) : linesS s one line k st = ([], st) := by
  cases k with
  | zero => rfl
  | succ k => simp only [linesS, if_neg (h.resolve_left (by omega))]
theorem read_val {α : Type} {s kind word one : By} {line : St → α × St} {r1 r3 st st4 st6 : St} {r2 r5 : Nat × St} {l : List α} (h0 : ¬ 65536 < s.length) (e1 : r1 = mustS s (headL kind word) (0, -1)) (e2 : r2 = wholeS s 63 r1) (e3 : r3 = mustS s [[10]] r2.2)
    (e4 : linesS s one line r2.1 r3 = (l, st)) (e5 : st4 = mustS s [[115, 117, 109], [32]] st) (e6 : r5 = sixteenS s st4) (e7 : st6 = mustS s [[10]] r5.2) :
    readS s kind word one line = if (if st6.2 < 0 ∧ st6.1 < s.length then ((st6.1, (st6.1 : Int)) : St) else st6).2 < 0 then (if r5.1 = sumS (s.take st.1) then (l, 0, 0) else (l, 291, (st4.1 : Int))) else (l, 290, (if st6.2 < 0 ∧ st6.1 < s.length then ((st6.1, (st6.1 : Int)) : St) else st6).2) := by
  subst e1 e2 e3 e5 e6 e7
  unfold readS endsS
  rw [if_neg h0]
  simp only [e4]
theorem val_cases {α : Type} {Q : List α × Int × Int} {l : List α} {a b : St} {told : Nat} {sm n : Nat} (h : Q = if (if a.2 < 0 ∧ a.1 < n then ((a.1, (a.1 : Int)) : St) else a).2 < 0 then (if told = sm then (l, 0, 0) else (l, 291, (b.1 : Int))) else (l, 290, (if a.2 < 0 ∧ a.1 < n then ((a.1, (a.1 : Int)) : St) else a).2)) :
    (a.2 < 0 → a.1 < n → Q = (l, 290, (a.1 : Int))) ∧ (a.2 < 0 → ¬ a.1 < n → told = sm → Q = (l, 0, 0)) ∧ (a.2 < 0 → ¬ a.1 < n → ¬ told = sm → Q = (l, 291, (b.1 : Int))) ∧ (¬ a.2 < 0 → Q = (l, 290, a.2)) := by
  refine ⟨fun h1 h2 => ?_, fun h1 h2 h3 => ?_, fun h1 h2 h3 => ?_, fun h1 => ?_⟩
  · have e : (if a.2 < 0 ∧ a.1 < n then ((a.1, (a.1 : Int)) : St) else a) = (a.1, (a.1 : Int)) := if_pos ⟨h1, h2⟩
    rw [h, e, if_neg (show ¬ ((a.1 : Int) < 0) by omega)]
  · have e : (if a.2 < 0 ∧ a.1 < n then ((a.1, (a.1 : Int)) : St) else a) = a := if_neg (fun x => h2 x.2)
    rw [h, e, if_pos h1, if_pos h3]
  · have e : (if a.2 < 0 ∧ a.1 < n then ((a.1, (a.1 : Int)) : St) else a) = a := if_neg (fun x => h2 x.2)
    rw [h, e, if_pos h1, if_neg h3]
  · have e : (if a.2 < 0 ∧ a.1 < n then ((a.1, (a.1 : Int)) : St) else a) = a := if_neg (fun x => h1 x.1)
    rw [h, e, if_neg h1]
theorem line_far {α : Type} {s one : By} {line : St → α × St} {wr : α → By} (hl : LineOk s line wr) (st : St) (h : (mustS s [[10]] (line (mustS s [one, [32]] st)).2).2 < 0) : st.1 + 1 ≤ (mustS s [[10]] (line (mustS s [one, [32]] st)).2).1 := by
  obtain ⟨h1, -, h3, -⟩ := must_ok _ _ _ h
  obtain ⟨g1, -, g3, -⟩ := hl _ h1
  obtain ⟨-, -, f3, -⟩ := must_ok _ _ _ g1
  simp at h3 f3
  omega
theorem sum_take (s : ByteArray) (k : Nat) : (s.extract 0 k).data.toList = s.data.toList.take k := by
  rw [Lib.extract_data]; simp
set_option maxRecDepth 100000 in
set_option maxHeartbeats 16000000 in
theorem read_any (K T E size : Nat) {α : Type} (s kind word one : ByteArray) (line : St → α × St) (cells : α → List Value) (wr : α → By) (law : Law K T E size s line cells wr) (hs : s.size ≤ 70000) (LB : Nat) (w : World) (V : Vars w) (hT : T ≠ E) (hE : 90 ≠ E)
    (hl : w.heap[LB]? = some (.cells #[.slice none 0 0] T (0, 0))) (hL : 8 ≤ LB) :
    Calls Tryz.prog 30 #[.string s, .string kind, .string word, .string one, .func (.func K) #[.pointer (some ⟨LB, 0, none⟩)] #[]] w fun e w' =>
      ∃ v sv, e = .returned v ∧ Told w (readS s.data.toList kind.data.toList word.data.toList one.data.toList line).2.1 (readS s.data.toList kind.data.toList word.data.toList one.data.toList line).2.2 v w' ∧
        (s.size ≤ 65536 → w'.heap[LB]? = some (.cells #[sv] T (0, 0)) ∧ w'.ownsRow w.heap.size E size sv (readS s.data.toList kind.data.toList word.data.toList one.data.toList line).1.length ((readS s.data.toList kind.data.toList word.data.toList one.data.toList line).1.flatMap cells)) ∧
        Keeps w.heap.size [LB] w w' := by
  have lL := lt_of_block hl
  have V' := hid V
  by_cases hlong : 65536 < s.size
  · unfold readS
    rw [if_pos (by rw [size_list]; exact hlong)]
    clear hl V
    go_enter Tryz.func30, Tryz.ntmps30
    go_wp2_with (go_at_call 33; ((with_reducible refine (fault_any _ _ _).mono ?_); rintro e w' ⟨rfl, rfl⟩))
    go_ret
    exact ⟨_, .nilIface, rfl, Or.inr ⟨by decide, w.heap.size, Nat.le_refl _, rfl, by simp only [block_at]⟩, fun h => by omega, (Keeps.refl _ _ _).alloc (Nat.le_refl _) _⟩
  · have A : At0 w w.heap.size LB w.heap.size T E := ⟨hL, lL, Nat.le_refl _, hT, hE⟩
    obtain ⟨w0, hw0⟩ : ∃ w0, w0 = w.alloc (.cells #[.string s, .int .i64 0, .int .i64 (-1)] 90) := ⟨_, rfl⟩
    have R0 : Rs w w.heap.size LB w.heap.size s (0, -1) T E size 0 [] (.slice none 0 0) w0 := by
      rw [hw0]
      exact ⟨by unfold Rd; simp only [block_at]; rfl, (Below.heap_alloc w _ LB lL).trans hl, ⟨by simp, .inl ⟨rfl, rfl⟩⟩, (Keeps.refl _ _ _).alloc (Nat.le_refl _) _⟩
    have z0 : w0.heap.size = w.heap.size + 1 := by rw [hw0]; simp
    obtain ⟨Q, hQ⟩ : ∃ Q, Q = readS s.data.toList kind.data.toList word.data.toList one.data.toList line := ⟨_, rfl⟩
    rw [← hQ]
    have HQ := hid hQ
    have L0 := hid R0
    have hcf := law.enter
    have h40 : 8 ≤ w.heap.size := by omega
    clear hl R0 V hQ
    go_enter Tryz.func30, Tryz.ntmps30
    go_wp2_with fail
    rw [← hw0]
    rw [show w.heap.size + 1 = w0.heap.size from z0.symm]
    clear hw0
    have hi0 : ((0, -1) : St).1 ≤ s.size := Nat.zero_le _
    refine (must_any w.heap.size s ((0, -1) : St).1 ((0, -1) : St).2 [wEddy, blank, kind, blank, wOne, wNl, word, blank] w0.heap.size 8 8 _ (L0.out.alloc A _).rd hi0 hs rfl (by decide) (by omega) (by simp) ?_).mono ?_
    · intro j hj
      rw [cell_of_block (show (w0.alloc (.cells #[.string ⟨#[101, 100, 100, 121]⟩, .string ⟨#[32]⟩, .string kind, .string ⟨#[32]⟩, .string ⟨#[49]⟩, .string ⟨#[10]⟩, .string word, .string ⟨#[32]⟩] 9)).heap[w0.heap.size]? = some (.cells #[.string ⟨#[101, 100, 100, 121]⟩, .string ⟨#[32]⟩, .string kind, .string ⟨#[32]⟩, .string ⟨#[49]⟩, .string ⟨#[10]⟩, .string word, .string ⟨#[32]⟩] 9 (0, 0)) by simp only [block_at])]
      rcases (show j = 0 ∨ j = 1 ∨ j = 2 ∨ j = 3 ∨ j = 4 ∨ j = 5 ∨ j = 6 ∨ j = 7 by omega) with rfl | rfl | rfl | rfl | rfl | rfl | rfl | rfl <;> rfl
    rintro e w1 ⟨rfl, hR, hK⟩
    have L1 := hid ((L0.out.alloc A _).call A hK hR)
    have hi1 := must_le s.data.toList (headL kind.data.toList word.data.toList) (0, -1) (Nat.zero_le _)
    rw [size_list] at hi1
    obtain ⟨r1, hr1⟩ : ∃ r, r = mustS s.data.toList (headL kind.data.toList word.data.toList) (0, -1) := ⟨_, rfl⟩
    rw [← hr1] at hi1
    rw [show mustS s.data.toList ([wEddy, blank, kind, blank, wOne, wNl, word, blank].map fun x => x.data.toList) (((0, -1) : St).1, ((0, -1) : St).2) = r1 from hr1.symm] at L1
    have E1 := hid hr1
    clear hr1 hR hK
    go_wp2_with fail
    have hV1 := V'.out.keep L1.out.kp h40 (by simpa using hL)
    refine (whole_any 63 (Or.inr rfl) w.heap.size s r1.1 r1.2 _ L1.out.rd hi1 hs hV1 (by have := L1.out.lt; omega) h40).mono ?_
    rintro e w2 ⟨rfl, hR, hK⟩
    have L2 := hid (L1.out.call A hK hR)
    have hi2 := whole_le s.data.toList 63 r1 (by rw [size_list]; exact hi1)
    rw [size_list] at hi2
    have hw2 := whole_lt s.data.toList 63 r1
    obtain ⟨r2, hr2⟩ : ∃ r, r = wholeS s.data.toList 63 r1 := ⟨_, rfl⟩
    rw [show wholeS s.data.toList 63 (r1.1, r1.2) = r2 from hr2.symm] at L2 ⊢
    rw [← hr2] at hi2 hw2
    have E2 := hid hr2
    clear hr2 hR hK hV1
    go_wp2_with fail
    refine (must_any w.heap.size s r2.2.1 r2.2.2 [wNl] w2.heap.size 1 1 _ (L2.out.alloc A _).rd hi2 hs rfl (by decide) (by have := L2.out.lt; simp at this ⊢; omega) (by simp) ?_).mono ?_
    · intro j hj
      rw [cell_of_block (show (w2.alloc (.cells #[.string ⟨#[10]⟩] 9)).heap[w2.heap.size]? = some (.cells #[.string ⟨#[10]⟩] 9 (0, 0)) by simp only [block_at])]
      (have h0 : j = 0 := by omega); subst h0; rfl
    rintro e w3 ⟨rfl, hR, hK⟩
    have L3 := hid ((L2.out.alloc A _).call A hK hR)
    have hi3 := must_le s.data.toList [[10]] r2.2 (by rw [size_list]; exact hi2)
    rw [size_list] at hi3
    obtain ⟨r3, hr3⟩ : ∃ r, r = mustS s.data.toList [[10]] r2.2 := ⟨_, rfl⟩
    rw [← hr3] at hi3
    rw [show mustS s.data.toList ([wNl].map fun x => x.data.toList) (r2.2.1, r2.2.2) = r3 from hr3.symm] at L3
    have E3 := hid hr3
    clear hr3 hR hK L0 L1 L2
    obtain ⟨NN, hNN⟩ : ∃ NN, NN = r2.1 := ⟨_, rfl⟩
    rw [← hNN] at hw2 ⊢
    have EN := hid hNN
    clear hNN
    go_wp2_with fail
    go_loopw [13] (fun t wr => ∃ (c : Nat) (st : St) (l : List α) (sv : Value), t = .int .u64 c ∧ c ≤ NN ∧ Hid (Rs w w.heap.size LB w.heap.size s st T E size l.length (l.flatMap cells) sv wr) ∧ st.1 ≤ s.size ∧ (st.2 < 0 → l.length ≤ st.1) ∧
      Hid (linesS s.data.toList one.data.toList line NN r3 = (l ++ (linesS s.data.toList one.data.toList line (NN - c) st).1, (linesS s.data.toList one.data.toList line (NN - c) st).2))) (fun t _ => NN - (intOf t).toNat)
    case atStart => exact ⟨0, r3, [], .slice none 0 0, rfl, Nat.zero_le _, L3, hi3, fun _ => Nat.zero_le _, hid rfl⟩
    case round =>
      obtain ⟨c, st, l, sv, rfl, hc, L4, hi4, hn4, HL⟩ := hrel
      have q1 := cell_of_block L4.out.rd 1
      simp at q1
      by_cases h1 : c < NN
      · by_cases h2 : st.2 < 0
        · have h2' : decide (st.2 < 0) = true := by simpa using h2
          have hn := hn4 h2
          go_wp2_with (go_at_call 38; ((with_reducible refine (ok_any w.heap.size s st.1 st.2 _ L4.out.rd).mono ?_); rintro e w' ⟨rfl, rfl⟩))
          refine (must_any w.heap.size s st.1 st.2 [one, blank] wr.heap.size 2 2 _ (L4.out.alloc A _).rd hi4 hs rfl (by decide) (by have := L4.out.lt; omega) (by simp) ?_).mono ?_
          · intro j hj
            rw [cell_of_block (show (wr.alloc (.cells #[.string one, .string ⟨#[32]⟩] 9)).heap[wr.heap.size]? = some (.cells #[.string one, .string ⟨#[32]⟩] 9 (0, 0)) by simp only [block_at])]
            rcases (show j = 0 ∨ j = 1 by omega) with rfl | rfl <;> rfl
          rintro e w5 ⟨rfl, hR, hK⟩
          have L5 := hid ((L4.out.alloc A _).call A hK hR)
          have hi5 := must_le s.data.toList [one.data.toList, [32]] st (by rw [size_list]; exact hi4)
          rw [size_list] at hi5
          obtain ⟨r5, hr5⟩ : ∃ r, r = mustS s.data.toList [one.data.toList, [32]] st := ⟨_, rfl⟩
          rw [← hr5] at hi5
          rw [show mustS s.data.toList ([one, blank].map fun x => x.data.toList) (st.1, st.2) = r5 from hr5.symm] at L5
          have E5 := hid hr5
          clear hr5 hR hK
          go_wp2_with fail
          refine (law.does w.heap.size r5.1 r5.2 LB w.heap.size l.length sv (l.flatMap cells) _ L5.out.rd hi5 (L5.out.at A) L5.out.lb L5.out.own (by omega) (V'.out.keep L5.out.kp h40 (by simpa using hL)) h40).mono ?_
          rintro e w6 ⟨rfl, hR, ⟨sv', hlb', hown'⟩, hK⟩
          have hi6 := law.le r5 hi5
          obtain ⟨r6, hr6⟩ : ∃ r, r = line r5 := ⟨_, rfl⟩
          rw [show line (r5.1, r5.2) = r6 from hr6.symm] at hR hown'
          rw [← hr6] at hi6
          have L6 : Hid (Rs w w.heap.size LB w.heap.size s r6.2 T E size (l ++ [r6.1]).length ((l ++ [r6.1]).flatMap cells) sv' w6) := hid ⟨hR, hlb', by simpa using hown', L5.out.kp.trans hK⟩
          have E6 := hid hr6
          clear hr6 hR hK hlb' hown'
          have hstep := lines_step s.data.toList one.data.toList line (NN - (c + 1)) st h2
          rw [show NN - (c + 1) + 1 = NN - c by omega, ← E5.out, ← E6.out] at hstep
          have hfar := line_far (one := one.data.toList) law.ok st
          rw [← E5.out, ← E6.out] at hfar
          have hfin : linesS s.data.toList one.data.toList line NN r3 = ((l ++ [r6.1]) ++ (linesS s.data.toList one.data.toList line (NN - (c + 1)) (mustS s.data.toList [[10]] r6.2)).1, (linesS s.data.toList one.data.toList line (NN - (c + 1)) (mustS s.data.toList [[10]] r6.2)).2) := by
            rw [HL.out, hstep]; simp
          have HF := hid hfin
          clear hfin hstep
          by_cases h6 : r6.2.2 < 0
          · have h6' : decide (r6.2.2 < 0) = true := by simpa using h6
            go_wp2_with (go_at_call 38; ((with_reducible refine (ok_any w.heap.size s r6.2.1 r6.2.2 _ L6.out.rd).mono ?_); rintro e w' ⟨rfl, rfl⟩))
            refine (must_any w.heap.size s r6.2.1 r6.2.2 [wNl] w6.heap.size 1 1 _ (L6.out.alloc A _).rd hi6 hs rfl (by decide) (by have := L6.out.lt; omega) (by simp) ?_).mono ?_
            · intro j hj
              rw [cell_of_block (show (w6.alloc (.cells #[.string ⟨#[10]⟩] 9)).heap[w6.heap.size]? = some (.cells #[.string ⟨#[10]⟩] 9 (0, 0)) by simp only [block_at])]
              (have h0 : j = 0 := by omega); subst h0; rfl
            rintro e w7 ⟨rfl, hR, hK⟩
            have L7 := hid ((L6.out.alloc A _).call A hK hR)
            have hi7 := must_le s.data.toList [[10]] r6.2 (by rw [size_list]; exact hi6)
            rw [size_list] at hi7
            rw [show mustS s.data.toList ([wNl].map fun x => x.data.toList) (r6.2.1, r6.2.2) = mustS s.data.toList [[10]] r6.2 from rfl] at L7
            go_wp2_with fail
            go_roundw
            case rel => exact ⟨c + 1, _, l ++ [r6.1], sv', by rfl, by omega, L7, hi7, fun h => by have := hfar h; simp; omega, HF⟩
            case measure => simp [intOf]; omega
          · have h6' : decide (r6.2.2 < 0) = false := by simpa using h6
            have hno := must_not s.data.toList [[10]] r6.2 h6
            rw [hno] at HF
            go_wp2_with (go_at_call 38; ((with_reducible refine (ok_any w.heap.size s r6.2.1 r6.2.2 _ L6.out.rd).mono ?_); rintro e w' ⟨rfl, rfl⟩))
            go_roundw
            case rel => exact ⟨c + 1, _, l ++ [r6.1], sv', by rfl, by omega, L6, hi6, fun h => by omega, HF⟩
            case measure => simp [intOf]; omega
        · have h2' : decide (st.2 < 0) = false := by simpa using h2
          have hstop := lines_stop s.data.toList one.data.toList line (NN - c) st (Or.inr h2)
          have hall : linesS s.data.toList one.data.toList line NN r3 = (l, st) := by rw [HL.out, hstop]; simp
          rw [EN.out] at hall
          have HALL := hid hall
          clear hall hstop HL
          go_wp2_with (go_at_call 38; ((with_reducible refine (ok_any w.heap.size s st.1 st.2 _ L4.out.rd).mono ?_); rintro e w' ⟨rfl, rfl⟩))
          refine (must_any w.heap.size s st.1 st.2 [wSum, blank] wr.heap.size 2 2 _ (L4.out.alloc A _).rd hi4 hs rfl (by decide) (by have := L4.out.lt; omega) (by simp) ?_).mono ?_
          · intro j hj
            rw [cell_of_block (show (wr.alloc (.cells #[.string ⟨#[115, 117, 109]⟩, .string ⟨#[32]⟩] 9)).heap[wr.heap.size]? = some (.cells #[.string ⟨#[115, 117, 109]⟩, .string ⟨#[32]⟩] 9 (0, 0)) by simp only [block_at])]
            rcases (show j = 0 ∨ j = 1 by omega) with rfl | rfl <;> rfl
          rintro e w5 ⟨rfl, hR, hK⟩
          have L5 := hid ((L4.out.alloc A _).call A hK hR)
          have hi5 := must_le s.data.toList [[115, 117, 109], [32]] st (by rw [size_list]; exact hi4)
          rw [size_list] at hi5
          obtain ⟨r5, hr5⟩ : ∃ r, r = mustS s.data.toList [[115, 117, 109], [32]] st := ⟨_, rfl⟩
          rw [← hr5] at hi5
          rw [show mustS s.data.toList ([wSum, blank].map fun x => x.data.toList) (st.1, st.2) = r5 from hr5.symm] at L5
          have E5 := hid hr5
          clear hr5 hR hK
          have q5 := cell_of_block L5.out.rd 1
          simp at q5
          go_wp2_with fail
          refine (sixteen_any w.heap.size s r5.1 r5.2 _ L5.out.rd hi5 hs).mono ?_
          rintro e w6 ⟨rfl, hR, hK⟩
          have L6 := hid (L5.out.call A hK hR)
          have hi6 := sixteen_le s.data.toList r5 (by rw [size_list]; exact hi5)
          rw [size_list] at hi6
          obtain ⟨r6, hr6⟩ : ∃ r, r = sixteenS s.data.toList r5 := ⟨_, rfl⟩
          rw [show sixteenS s.data.toList (r5.1, r5.2) = r6 from hr6.symm] at L6 ⊢
          rw [← hr6] at hi6
          have E6 := hid hr6
          clear hr6 hR hK
          go_wp2_with fail
          refine (must_any w.heap.size s r6.2.1 r6.2.2 [wNl] w6.heap.size 1 1 _ (L6.out.alloc A _).rd hi6 hs rfl (by decide) (by have := L6.out.lt; omega) (by simp) ?_).mono ?_
          · intro j hj
            rw [cell_of_block (show (w6.alloc (.cells #[.string ⟨#[10]⟩] 9)).heap[w6.heap.size]? = some (.cells #[.string ⟨#[10]⟩] 9 (0, 0)) by simp only [block_at])]
            (have h0 : j = 0 := by omega); subst h0; rfl
          rintro e w7 ⟨rfl, hR, hK⟩
          have L7 := hid ((L6.out.alloc A _).call A hK hR)
          have hi7 := must_le s.data.toList [[10]] r6.2 (by rw [size_list]; exact hi6)
          rw [size_list] at hi7
          obtain ⟨r7, hr7⟩ : ∃ r, r = mustS s.data.toList [[10]] r6.2 := ⟨_, rfl⟩
          rw [← hr7] at hi7
          rw [show mustS s.data.toList ([wNl].map fun x => x.data.toList) (r6.2.1, r6.2.2) = r7 from hr7.symm] at L7
          have hval := read_val (by rw [size_list]; exact hlong) E1.out E2.out E3.out HALL.out E5.out E6.out hr7
          rw [← HQ.out, size_list] at hval
          obtain ⟨vA, vB, vC, vD⟩ := val_cases hval
          clear hval
          clear hr7 hR hK L5 L6
          have q7 := cell_of_block L7.out.rd 1
          have a7 := cell_of_block L7.out.rd 2
          simp at q7 a7
          by_cases h7 : r7.2 < 0
          · have h7' : decide (r7.2 < 0) = true := by simpa using h7
            by_cases h8 : r7.1 < s.size
            · have h8' : ((r7.1 : Int) < (s.size : Int)) := by omega
              have hval := vA h7 h8
              have HV := hid hval
              clear hval vA vB vC vD
              go_wp2_with (go_at_call 38; ((with_reducible refine (ok_any w.heap.size s r7.1 r7.2 _ L7.out.rd).mono ?_); rintro e w' ⟨rfl, rfl⟩))
              refine (wrong_any w.heap.size s r7.1 r7.2 r7.1 _ L7.out.rd).mono ?_
              rintro e w8 ⟨rfl, hR, hK⟩
              rw [if_pos h7] at hR
              have L8 := hid (L7.out.call (st' := (r7.1, (r7.1 : Int))) A hK hR)
              clear hR hK
              have a8 := cell_of_block L8.out.rd 2
              simp at a8
              have h9 : decide ((r7.1 : Int) < 0) = false := by simp
              have K8 := L8.out.kp
              go_wp2_with (first | (go_at_call 38; ((with_reducible refine (ok_any w.heap.size s r7.1 r7.1 _ L8.out.rd).mono ?_); rintro e w' ⟨rfl, rfl⟩)) | (go_at_call 33; ((with_reducible refine (fault_any _ _ _).mono ?_); rintro e w' ⟨rfl, rfl⟩)))
              go_ret
              rw [HV.out]
              exact ⟨_, sv, rfl, Or.inr ⟨(by simp), w8.heap.size, L8.out.kp.size, rfl, by simp only [block_at]⟩, fun _ => ⟨(L8.out.alloc A _).lb, (L8.out.alloc A _).own⟩, (L8.out.alloc A _).kp⟩
            · have h8' : ¬ ((r7.1 : Int) < (s.size : Int)) := by omega
              have hsum := fun w1 => sum_any (s.extract 0 st.1) (by have : (s.extract 0 st.1).data.toList.length ≤ s.data.toList.length := (by rw [sum_take]; simp; omega); rw [size_list, size_list] at this; omega) w1
              rw [sum_take] at hsum
              by_cases h9 : r6.1 = sumS (s.data.toList.take st.1)
              · have hval := vB h7 h8 h9
                have h9' : ((r6.1 : Int) != ((sumS (s.data.toList.take st.1) : Nat) : Int)) = false := by rw [h9]; simp
                have HV := hid hval
                clear hval vA vB vC vD
                go_wp2_with (go_at_call 38; ((with_reducible refine (ok_any w.heap.size s r7.1 r7.2 _ L7.out.rd).mono ?_); rintro e w' ⟨rfl, rfl⟩))
                refine (hsum _).mono ?_
                rintro e w8 ⟨rfl, hb⟩
                have HB8 := hid hb
                clear hb
                go_wp2_with fail
                go_ret
                rw [HV.out]
                have L8 := L7.out.call (st' := r7) A (Keeps.of_below (S := [w.heap.size]) HB8.out) (L7.out.rd.keep (Keeps.of_below (S := []) HB8.out) L7.out.lt (by simp))
                exact ⟨_, sv, rfl, Or.inl ⟨rfl, rfl⟩, fun _ => ⟨L8.lb, L8.own⟩, L8.kp⟩
              · have hval := vC h7 h8 h9
                have h9' : ((r6.1 : Int) != ((sumS (s.data.toList.take st.1) : Nat) : Int)) = true := by simp; omega
                have HV := hid hval
                clear hval vA vB vC vD
                go_wp2_with (go_at_call 38; ((with_reducible refine (ok_any w.heap.size s r7.1 r7.2 _ L7.out.rd).mono ?_); rintro e w' ⟨rfl, rfl⟩))
                refine (hsum _).mono ?_
                rintro e w8 ⟨rfl, hb⟩
                have HB8 := hid hb
                clear hb
                go_wp2_with (go_at_call 33; ((with_reducible refine (fault_any _ _ _).mono ?_); rintro e w' ⟨rfl, rfl⟩))
                go_ret
                rw [HV.out]
                have L8 := L7.out.call (st' := r7) A (Keeps.of_below (S := [w.heap.size]) HB8.out) (L7.out.rd.keep (Keeps.of_below (S := []) HB8.out) L7.out.lt (by simp))
                exact ⟨_, sv, rfl, Or.inr ⟨(by simp), w8.heap.size, L8.kp.size, rfl, by simp only [block_at]⟩, fun _ => ⟨(L8.alloc A _).lb, (L8.alloc A _).own⟩, (L8.alloc A _).kp⟩
          · have h7' : decide (r7.2 < 0) = false := by simpa using h7
            have hval := vD h7
            have HV := hid hval
            clear hval vA vB vC vD
            go_wp2_with (first | (go_at_call 38; ((with_reducible refine (ok_any w.heap.size s r7.1 r7.2 _ L7.out.rd).mono ?_); rintro e w' ⟨rfl, rfl⟩)) | (go_at_call 33; ((with_reducible refine (fault_any _ _ _).mono ?_); rintro e w' ⟨rfl, rfl⟩)))
            go_ret
            rw [HV.out]
            exact ⟨_, sv, rfl, Or.inr ⟨(by simp), w7.heap.size, L7.out.kp.size, rfl, by simp only [block_at]⟩, fun _ => ⟨(L7.out.alloc A _).lb, (L7.out.alloc A _).own⟩, (L7.out.alloc A _).kp⟩
      · have hstop := lines_stop s.data.toList one.data.toList line (NN - c) st (Or.inl (by omega))
        have hall : linesS s.data.toList one.data.toList line NN r3 = (l, st) := by rw [HL.out, hstop]; simp
        rw [EN.out] at hall
        have HALL := hid hall
        clear hall hstop HL
        go_wp2_with (go_at_call 38; ((with_reducible refine (ok_any w.heap.size s st.1 st.2 _ L4.out.rd).mono ?_); rintro e w' ⟨rfl, rfl⟩))
        refine (must_any w.heap.size s st.1 st.2 [wSum, blank] wr.heap.size 2 2 _ (L4.out.alloc A _).rd hi4 hs rfl (by decide) (by have := L4.out.lt; omega) (by simp) ?_).mono ?_
        · intro j hj
          rw [cell_of_block (show (wr.alloc (.cells #[.string ⟨#[115, 117, 109]⟩, .string ⟨#[32]⟩] 9)).heap[wr.heap.size]? = some (.cells #[.string ⟨#[115, 117, 109]⟩, .string ⟨#[32]⟩] 9 (0, 0)) by simp only [block_at])]
          rcases (show j = 0 ∨ j = 1 by omega) with rfl | rfl <;> rfl
        rintro e w5 ⟨rfl, hR, hK⟩
        have L5 := hid ((L4.out.alloc A _).call A hK hR)
        have hi5 := must_le s.data.toList [[115, 117, 109], [32]] st (by rw [size_list]; exact hi4)
        rw [size_list] at hi5
        obtain ⟨r5, hr5⟩ : ∃ r, r = mustS s.data.toList [[115, 117, 109], [32]] st := ⟨_, rfl⟩
        rw [← hr5] at hi5
        rw [show mustS s.data.toList ([wSum, blank].map fun x => x.data.toList) (st.1, st.2) = r5 from hr5.symm] at L5
        have E5 := hid hr5
        clear hr5 hR hK
        have q5 := cell_of_block L5.out.rd 1
        simp at q5
        go_wp2_with fail
        refine (sixteen_any w.heap.size s r5.1 r5.2 _ L5.out.rd hi5 hs).mono ?_
        rintro e w6 ⟨rfl, hR, hK⟩
        have L6 := hid (L5.out.call A hK hR)
        have hi6 := sixteen_le s.data.toList r5 (by rw [size_list]; exact hi5)
        rw [size_list] at hi6
        obtain ⟨r6, hr6⟩ : ∃ r, r = sixteenS s.data.toList r5 := ⟨_, rfl⟩
        rw [show sixteenS s.data.toList (r5.1, r5.2) = r6 from hr6.symm] at L6 ⊢
        rw [← hr6] at hi6
        have E6 := hid hr6
        clear hr6 hR hK
        go_wp2_with fail
        refine (must_any w.heap.size s r6.2.1 r6.2.2 [wNl] w6.heap.size 1 1 _ (L6.out.alloc A _).rd hi6 hs rfl (by decide) (by have := L6.out.lt; omega) (by simp) ?_).mono ?_
        · intro j hj
          rw [cell_of_block (show (w6.alloc (.cells #[.string ⟨#[10]⟩] 9)).heap[w6.heap.size]? = some (.cells #[.string ⟨#[10]⟩] 9 (0, 0)) by simp only [block_at])]
          (have h0 : j = 0 := by omega); subst h0; rfl
        rintro e w7 ⟨rfl, hR, hK⟩
        have L7 := hid ((L6.out.alloc A _).call A hK hR)
        have hi7 := must_le s.data.toList [[10]] r6.2 (by rw [size_list]; exact hi6)
        rw [size_list] at hi7
        obtain ⟨r7, hr7⟩ : ∃ r, r = mustS s.data.toList [[10]] r6.2 := ⟨_, rfl⟩
        rw [← hr7] at hi7
        rw [show mustS s.data.toList ([wNl].map fun x => x.data.toList) (r6.2.1, r6.2.2) = r7 from hr7.symm] at L7
        have hval := read_val (by rw [size_list]; exact hlong) E1.out E2.out E3.out HALL.out E5.out E6.out hr7
        rw [← HQ.out, size_list] at hval
        obtain ⟨vA, vB, vC, vD⟩ := val_cases hval
        clear hval
        clear hr7 hR hK L5 L6
        have q7 := cell_of_block L7.out.rd 1
        have a7 := cell_of_block L7.out.rd 2
        simp at q7 a7
        by_cases h7 : r7.2 < 0
        · have h7' : decide (r7.2 < 0) = true := by simpa using h7
          by_cases h8 : r7.1 < s.size
          · have h8' : ((r7.1 : Int) < (s.size : Int)) := by omega
            have hval := vA h7 h8
            have HV := hid hval
            clear hval vA vB vC vD
            go_wp2_with (go_at_call 38; ((with_reducible refine (ok_any w.heap.size s r7.1 r7.2 _ L7.out.rd).mono ?_); rintro e w' ⟨rfl, rfl⟩))
            refine (wrong_any w.heap.size s r7.1 r7.2 r7.1 _ L7.out.rd).mono ?_
            rintro e w8 ⟨rfl, hR, hK⟩
            rw [if_pos h7] at hR
            have L8 := hid (L7.out.call (st' := (r7.1, (r7.1 : Int))) A hK hR)
            clear hR hK
            have a8 := cell_of_block L8.out.rd 2
            simp at a8
            have h9 : decide ((r7.1 : Int) < 0) = false := by simp
            have K8 := L8.out.kp
            go_wp2_with (first | (go_at_call 38; ((with_reducible refine (ok_any w.heap.size s r7.1 r7.1 _ L8.out.rd).mono ?_); rintro e w' ⟨rfl, rfl⟩)) | (go_at_call 33; ((with_reducible refine (fault_any _ _ _).mono ?_); rintro e w' ⟨rfl, rfl⟩)))
            go_ret
            rw [HV.out]
            exact ⟨_, sv, rfl, Or.inr ⟨(by simp), w8.heap.size, L8.out.kp.size, rfl, by simp only [block_at]⟩, fun _ => ⟨(L8.out.alloc A _).lb, (L8.out.alloc A _).own⟩, (L8.out.alloc A _).kp⟩
          · have h8' : ¬ ((r7.1 : Int) < (s.size : Int)) := by omega
            have hsum := fun w1 => sum_any (s.extract 0 st.1) (by have : (s.extract 0 st.1).data.toList.length ≤ s.data.toList.length := (by rw [sum_take]; simp; omega); rw [size_list, size_list] at this; omega) w1
            rw [sum_take] at hsum
            by_cases h9 : r6.1 = sumS (s.data.toList.take st.1)
            · have hval := vB h7 h8 h9
              have h9' : ((r6.1 : Int) != ((sumS (s.data.toList.take st.1) : Nat) : Int)) = false := by rw [h9]; simp
              have HV := hid hval
              clear hval vA vB vC vD
              go_wp2_with (go_at_call 38; ((with_reducible refine (ok_any w.heap.size s r7.1 r7.2 _ L7.out.rd).mono ?_); rintro e w' ⟨rfl, rfl⟩))
              refine (hsum _).mono ?_
              rintro e w8 ⟨rfl, hb⟩
              have HB8 := hid hb
              clear hb
              go_wp2_with fail
              go_ret
              rw [HV.out]
              have L8 := L7.out.call (st' := r7) A (Keeps.of_below (S := [w.heap.size]) HB8.out) (L7.out.rd.keep (Keeps.of_below (S := []) HB8.out) L7.out.lt (by simp))
              exact ⟨_, sv, rfl, Or.inl ⟨rfl, rfl⟩, fun _ => ⟨L8.lb, L8.own⟩, L8.kp⟩
            · have hval := vC h7 h8 h9
              have h9' : ((r6.1 : Int) != ((sumS (s.data.toList.take st.1) : Nat) : Int)) = true := by simp; omega
              have HV := hid hval
              clear hval vA vB vC vD
              go_wp2_with (go_at_call 38; ((with_reducible refine (ok_any w.heap.size s r7.1 r7.2 _ L7.out.rd).mono ?_); rintro e w' ⟨rfl, rfl⟩))
              refine (hsum _).mono ?_
              rintro e w8 ⟨rfl, hb⟩
              have HB8 := hid hb
              clear hb
              go_wp2_with (go_at_call 33; ((with_reducible refine (fault_any _ _ _).mono ?_); rintro e w' ⟨rfl, rfl⟩))
              go_ret
              rw [HV.out]
              have L8 := L7.out.call (st' := r7) A (Keeps.of_below (S := [w.heap.size]) HB8.out) (L7.out.rd.keep (Keeps.of_below (S := []) HB8.out) L7.out.lt (by simp))
              exact ⟨_, sv, rfl, Or.inr ⟨(by simp), w8.heap.size, L8.kp.size, rfl, by simp only [block_at]⟩, fun _ => ⟨(L8.alloc A _).lb, (L8.alloc A _).own⟩, (L8.alloc A _).kp⟩
        · have h7' : decide (r7.2 < 0) = false := by simpa using h7
          have hval := vD h7
          have HV := hid hval
          clear hval vA vB vC vD
          go_wp2_with (first | (go_at_call 38; ((with_reducible refine (ok_any w.heap.size s r7.1 r7.2 _ L7.out.rd).mono ?_); rintro e w' ⟨rfl, rfl⟩)) | (go_at_call 33; ((with_reducible refine (fault_any _ _ _).mono ?_); rintro e w' ⟨rfl, rfl⟩)))
          go_ret
          rw [HV.out]
          exact ⟨_, sv, rfl, Or.inr ⟨(by simp), w7.heap.size, L7.out.kp.size, rfl, by simp only [block_at]⟩, fun _ => ⟨(L7.out.alloc A _).lb, (L7.out.alloc A _).own⟩, (L7.out.alloc A _).kp⟩
end Go.Proofs.YtnagagcgmfkjjaaGreatDoor
