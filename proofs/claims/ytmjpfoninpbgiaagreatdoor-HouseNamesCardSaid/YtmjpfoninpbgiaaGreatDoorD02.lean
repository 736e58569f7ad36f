/- The readers and the writers of saves as plain functions; what is read is what is written. A run of bytes, of the given program's reader. Words that must stand there, of the given program's reader. A number in sixteen sixteens, of the library that the given program calls. Floats of the given program's reader. -/
import Derived.Test.YtmjpfoninpbgiaaGreatDoorD01
import Derived.Test.YtmjpfoninpbgiaaGreatDoorShelf
import Derived.Deep.QuietTactic
import Derived.BigQuiet
import Derived.Outline
import Derived.Deep.LoopGhost
import Derived.IntWalk
import Derived.Lib.IndexBytes
import Derived.Lib.ConvBytes
import Derived.Lib.AtoiAllMem
import Derived.Lib.Hide
import Derived.Laws.Strings3
import Derived.Laws.Closers25
import Derived.Laws.Closers25b
import Derived.BigCall
import Derived.BigGuard
set_option linter.unusedSimpArgs false
set_option linter.unusedVariables false
namespace Go.Proofs.YtmjpfoninpbgiaaGreatDoor
section
open Go.RowKit

abbrev By := List UInt8
/-- Where a reader stands: how far, and the place of the first wrong piece, or -1. -/
abbrev St := Nat × Int
def wrongS (p : Nat) (st : St) : St := if st.2 < 0 then (st.1, (p : Int)) else st
def mustS (s : By) : List By → St → St
  | [], st => st
  | w :: ws, st => if st.2 < 0 then (if w.isPrefixOf (s.drop st.1) then mustS s ws (st.1 + w.length, st.2) else (st.1, (st.1 : Int))) else st
def isDig (c : UInt8) : Bool := 48 ≤ c && c ≤ 57
def isHex (c : UInt8) : Bool := (48 ≤ c && c ≤ 57) || (97 ≤ c && c ≤ 102)
/-- The longest run of bytes of a kind, at most so many. -/
def runS (s : By) (p : UInt8 → Bool) (most i : Nat) : By := ((s.drop i).take most).takeWhile p
def decV (d : By) : Nat := d.foldl (fun n c => 10 * n + (c.toNat - 48)) 0
def hexD (c : UInt8) : Nat := if c ≤ 57 then c.toNat - 48 else c.toNat - 87
def hexV (d : By) : Nat := d.foldl (fun n c => 16 * n + hexD c) 0
def badWhole (d : By) (bits : Nat) : Bool := d.isEmpty || decide (2 ^ bits ≤ decV d) || (decide (1 < d.length) && d.headD 0 == 48)
def wholeS (s : By) (bits : Nat) (st : St) : Nat × St :=
  if st.2 < 0 then
    let d := runS s isDig s.length st.1
    if badWhole d bits then (0, (st.1 + d.length, (st.1 : Int))) else (decV d, (st.1 + d.length, st.2))
  else (0, st)
def sixteenS (s : By) (st : St) : Nat × St :=
  if st.2 < 0 then
    let d := runS s isHex 16 st.1
    if d.length = 16 then (hexV d, (st.1 + 16, st.2)) else (0, (st.1 + d.length, (st.1 : Int)))
  else (0, st)
/-- A float's bits, of no number those of one. -/
def isNan (n : Nat) : Bool := !(FloatKind.f64.format.order n n == some .eq)
def bitsS (n : Nat) : Nat := if isNan n then 9221120237041090560 else n
def floatS (s : By) (st : St) : Nat × St :=
  let r := sixteenS s st
  if bitsS r.1 = r.1 then r else (r.1, wrongS st.1 r.2)
/-- Floats, a blank between each two: the first one without. -/
def floatsS (s : By) : Nat → Bool → St → List Nat × St
  | 0, _, st => ([], st)
  | k + 1, first, st =>
    let st1 := if first then st else mustS s [[32]] st
    let r := floatS s st1
    let q := floatsS s k false r.2
    (r.1 :: q.1, q.2)
/-! What is written. -/
def decW (n : Nat) : By := if n < 10 then [UInt8.ofNat (48 + n)] else decW (n / 10) ++ [UInt8.ofNat (48 + n % 10)]
def hexC (k : Nat) : UInt8 := if k < 10 then UInt8.ofNat (48 + k) else UInt8.ofNat (87 + k)
def hexW : Nat → Nat → By
  | 0, _ => []
  | k + 1, n => hexW k (n / 16) ++ [hexC (n % 16)]
def floatsW : List Nat → By
  | [] => []
  | [x] => hexW 16 (bitsS x)
  | x :: y :: r => hexW 16 (bitsS x) ++ [32] ++ floatsW (y :: r)
/-! The lemmas. -/
theorem hexC_hexD (c : UInt8) (h : isHex c = true) : hexC (hexD c) = c ∧ hexD c < 16 := by
  have H : ∀ n : Fin 256, isHex (UInt8.ofNat n.1) = true → hexC (hexD (UInt8.ofNat n.1)) = UInt8.ofNat n.1 ∧ hexD (UInt8.ofNat n.1) < 16 := by decide +kernel
  have := H ⟨c.toNat, UInt8.toNat_lt c⟩
  simp only [UInt8.ofNat_toNat] at this
  exact this h
theorem hexV_snoc (d : By) (c : UInt8) : hexV (d ++ [c]) = 16 * hexV d + hexD c := by simp [hexV, List.foldl_append]
theorem decV_snoc (d : By) (c : UInt8) : decV (d ++ [c]) = 10 * decV d + (c.toNat - 48) := by simp [decV, List.foldl_append]
theorem hexW_hexV : ∀ (n : Nat) (d : By), d.length = n → (∀ c ∈ d, isHex c = true) → hexW n (hexV d) = d := by
  intro n
  induction n with
  | zero => intro d hd _; rw [List.eq_nil_of_length_eq_zero hd]; rfl
  | succ n ih =>
    intro d hd hc
    have hne : d ≠ [] := by intro e; rw [e] at hd; cases hd
    obtain ⟨d', c, rfl⟩ : ∃ d' c, d = d' ++ [c] := ⟨d.dropLast, d.getLast hne, (List.dropLast_concat_getLast hne).symm⟩
    have h1 := hexC_hexD c (hc c (by simp))
    simp only [hexW, hexV_snoc]
    rw [show (16 * hexV d' + hexD c) / 16 = hexV d' by omega, show (16 * hexV d' + hexD c) % 16 = hexD c by omega, h1.1, ih d' (by simpa using hd) (fun x hx => hc x (by simp [hx]))]
theorem dig_ofNat (c : UInt8) (h : isDig c = true) : UInt8.ofNat (48 + (c.toNat - 48)) = c ∧ c.toNat - 48 < 10 := by
  have H : ∀ n : Fin 256, isDig (UInt8.ofNat n.1) = true → UInt8.ofNat (48 + ((UInt8.ofNat n.1).toNat - 48)) = UInt8.ofNat n.1 ∧ (UInt8.ofNat n.1).toNat - 48 < 10 := by decide +kernel
  have := H ⟨c.toNat, UInt8.toNat_lt c⟩
  simp only [UInt8.ofNat_toNat] at this
  exact this h
theorem decV_pos (d : By) (hd : ∀ c ∈ d, isDig c = true) (h0 : d.headD 0 ≠ 48) (hne : d ≠ []) : 0 < decV d := by
  induction h : d.length generalizing d with
  | zero => exact absurd (List.eq_nil_of_length_eq_zero h) hne
  | succ n ih =>
    obtain ⟨d', c, rfl⟩ : ∃ d' c, d = d' ++ [c] := ⟨d.dropLast, d.getLast hne, (List.dropLast_concat_getLast hne).symm⟩
    rw [decV_snoc]
    cases d' with
    | nil =>
      simp only [List.nil_append, List.headD_cons] at h0
      have h1 := dig_ofNat c (hd c (by simp))
      have : c.toNat - 48 ≠ 0 := by
        intro e
        rw [e] at h1
        exact h0 h1.1.symm
      omega
    | cons x y =>
      have := ih (x :: y) (fun z hz => hd z (by simp at hz ⊢; rcases hz with h | h <;> simp [h])) (by simpa using h0) (by simp) (by simpa using h)
      omega
theorem decW_decV (d : By) (hd : ∀ c ∈ d, isDig c = true) (hne : d ≠ []) (h0 : 1 < d.length → d.headD 0 ≠ 48) : decW (decV d) = d := by
  induction h : d.length generalizing d with
  | zero => exact absurd (List.eq_nil_of_length_eq_zero h) hne
  | succ n ih =>
    obtain ⟨d', c, rfl⟩ : ∃ d' c, d = d' ++ [c] := ⟨d.dropLast, d.getLast hne, (List.dropLast_concat_getLast hne).symm⟩
    have h1 := dig_ofNat c (hd c (by simp))
    rw [decV_snoc]
    cases d' with
    | nil =>
      simp only [decV, List.foldl_nil, List.nil_append]
      rw [decW, if_pos (by omega)]
      simp only [Nat.mul_zero, Nat.zero_add, h1.1]
    | cons x y =>
      have hlen : 1 < (x :: y ++ [c]).length := by simp
      have hx : (x :: y).headD 0 ≠ 48 := by simpa using h0 hlen
      have hpos := decV_pos (x :: y) (fun z hz => hd z (by simp at hz ⊢; rcases hz with h | h <;> simp [h])) hx (by simp)
      have ihh := ih (x :: y) (fun z hz => hd z (by simp at hz ⊢; rcases hz with h | h <;> simp [h])) (by simp) (fun _ => hx) (by simpa using h)
      rw [decW, if_neg (by omega), show (10 * decV (x :: y) + (c.toNat - 48)) / 10 = decV (x :: y) by omega, show (10 * decV (x :: y) + (c.toNat - 48)) % 10 = c.toNat - 48 by omega, ihh, h1.1]
theorem must_not (s : By) (ws : List By) (st : St) (h : ¬ st.2 < 0) : mustS s ws st = st := by
  cases ws with
  | nil => rfl
  | cons w ws => rw [mustS, if_neg h]
theorem must_ok (s : By) : ∀ (ws : List By) (st : St), (mustS s ws st).2 < 0 → st.2 < 0 ∧ s.take (mustS s ws st).1 = s.take st.1 ++ ws.flatten ∧ (mustS s ws st).1 = st.1 + ws.flatten.length ∧ (st.1 ≤ s.length → (mustS s ws st).1 ≤ s.length) := by
  intro ws
  induction ws with
  | nil => intro st h; exact ⟨h, by simp [mustS], rfl, fun h => h⟩
  | cons w ws ih =>
    intro st h
    by_cases h0 : st.2 < 0
    · rw [mustS, if_pos h0] at h ⊢
      by_cases hw : w.isPrefixOf (s.drop st.1) = true
      · rw [if_pos hw] at h ⊢
        obtain ⟨h1, h2, h3, h4⟩ := ih _ h
        obtain ⟨t, ht⟩ := List.isPrefixOf_iff_prefix.1 hw
        refine ⟨h0, ?_, ?_, fun hl => h4 ?_⟩
        · rw [h2, List.take_add, ← ht]
          simp
        · rw [h3]; simp; omega
        · have : (s.drop st.1).length = w.length + t.length := by rw [← ht]; simp
          simp at this
          show st.1 + w.length ≤ s.length
          omega
      · rw [if_neg hw] at h
        simp at h
        omega
    · rw [must_not s _ _ h0] at h
      exact absurd h h0
theorem run_take (s : By) (p : UInt8 → Bool) (most i : Nat) : s.take (i + (runS s p most i).length) = s.take i ++ runS s p most i := by
  rw [List.take_add]
  congr 1
  unfold runS
  have h1 : ((s.drop i).take most).takeWhile p = ((s.drop i).take most).take (((s.drop i).take most).takeWhile p).length := by
    exact (List.prefix_iff_eq_take.1 (List.takeWhile_prefix p))
  have hle : (((s.drop i).take most).takeWhile p).length ≤ most := Nat.le_trans (List.takeWhile_prefix p).length_le (by simp; omega)
  rw [List.take_take, Nat.min_eq_left hle] at h1
  exact h1.symm
theorem run_all (s : By) (p : UInt8 → Bool) (most i : Nat) : ∀ c ∈ runS s p most i, p c = true := by
  intro c hc
  unfold runS at hc
  have h := List.all_takeWhile (p := p) (l := (s.drop i).take most)
  rw [List.all_eq_true] at h
  exact h c hc
theorem run_le (s : By) (p : UInt8 → Bool) (most i : Nat) (h : i ≤ s.length) : i + (runS s p most i).length ≤ s.length := by
  have := (List.takeWhile_prefix p (l := (s.drop i).take most)).length_le
  unfold runS
  simp at this
  omega
theorem whole_ok (s : By) (bits : Nat) (st : St) (h : (wholeS s bits st).2.2 < 0) : st.2 < 0 ∧ s.take (wholeS s bits st).2.1 = s.take st.1 ++ decW (wholeS s bits st).1 ∧ (wholeS s bits st).1 < 2 ^ bits ∧ st.1 < (wholeS s bits st).2.1 ∧ (st.1 ≤ s.length → (wholeS s bits st).2.1 ≤ s.length) := by
  unfold wholeS at h ⊢
  by_cases h0 : st.2 < 0
  · simp only [if_pos h0] at h ⊢
    by_cases hb : badWhole (runS s isDig s.length st.1) bits = true
    · rw [if_pos hb] at h; simp at h; omega
    · simp only [if_neg hb]
      unfold badWhole at hb
      simp only [Bool.or_eq_true, not_or, Bool.and_eq_true, decide_eq_true_eq, beq_iff_eq, not_and, List.isEmpty_iff] at hb
      obtain ⟨⟨h1, h2⟩, h3⟩ := hb
      refine ⟨h0, ?_, by omega, ?_, fun hl => run_le s _ _ _ hl⟩
      · rw [run_take, decW_decV _ (run_all s _ _ _) h1 h3]
      · have := List.length_pos_iff.2 h1
        show st.1 < st.1 + _
        omega
  · rw [if_neg h0] at h
    exact absurd h h0
theorem sixteen_ok (s : By) (st : St) (h : (sixteenS s st).2.2 < 0) : st.2 < 0 ∧ s.take (sixteenS s st).2.1 = s.take st.1 ++ hexW 16 (sixteenS s st).1 ∧ (sixteenS s st).2.1 = st.1 + 16 ∧ (st.1 ≤ s.length → (sixteenS s st).2.1 ≤ s.length) := by
  unfold sixteenS at h ⊢
  by_cases h0 : st.2 < 0
  · simp only [if_pos h0] at h ⊢
    by_cases hb : (runS s isHex 16 st.1).length = 16
    · simp only [if_pos hb]
      refine ⟨h0, ?_, trivial, fun hl => ?_⟩
      · have h1 := run_take s isHex 16 st.1
        rw [hb] at h1
        rw [h1, hexW_hexV 16 _ hb (run_all s _ _ _)]
      · have := run_le s isHex 16 st.1 hl
        rw [hb] at this
        exact this
    · rw [if_neg hb] at h; simp at h; omega
  · rw [if_neg h0] at h
    exact absurd h h0
theorem float_ok (s : By) (st : St) (h : (floatS s st).2.2 < 0) : st.2 < 0 ∧ s.take (floatS s st).2.1 = s.take st.1 ++ hexW 16 (bitsS (floatS s st).1) ∧ (floatS s st).2.1 = st.1 + 16 ∧ (st.1 ≤ s.length → (floatS s st).2.1 ≤ s.length) := by
  unfold floatS at h ⊢
  by_cases hb : bitsS (sixteenS s st).1 = (sixteenS s st).1
  · simp only [if_pos hb] at h ⊢
    rw [hb]
    exact sixteen_ok s st h
  · simp only [if_neg hb] at h
    unfold wrongS at h
    split at h
    · simp at h; omega
    · contradiction
/-- A blank ahead, or none. -/
def gapW : Bool → By
  | true => []
  | false => [32]
def floatsG : Bool → List Nat → By
  | _, [] => []
  | b, x :: r => gapW b ++ hexW 16 (bitsS x) ++ floatsG false r
theorem floatsG_W (l : List Nat) : floatsG true l = floatsW l := by
  match l with
  | [] => rfl
  | [x] => simp [floatsG, floatsW, gapW]
  | x :: y :: r =>
    have := floatsG_W (y :: r)
    simp only [floatsG, gapW, List.nil_append] at this
    simp [floatsG, floatsW, gapW, ← this]
theorem floats_ok (s : By) : ∀ (k : Nat) (b : Bool) (st : St), (floatsS s k b st).2.2 < 0 → st.2 < 0 ∧ s.take (floatsS s k b st).2.1 = s.take st.1 ++ floatsG b (floatsS s k b st).1 ∧ st.1 ≤ (floatsS s k b st).2.1 ∧ (st.1 ≤ s.length → (floatsS s k b st).2.1 ≤ s.length) := by
  intro k
  induction k with
  | zero => intro b st h; exact ⟨h, by simp [floatsS, floatsG], Nat.le_refl _, fun h => h⟩
  | succ k ih =>
    intro b st h
    simp only [floatsS] at h ⊢
    obtain ⟨h1, h2, h3, h4⟩ := ih _ _ h
    obtain ⟨g1, g2, g3, g4⟩ := float_ok _ _ h1
    cases b with
    | true =>
      simp only [if_true] at h1 h2 h3 h4 g1 g2 g3 g4 ⊢
      refine ⟨g1, ?_, by omega, fun hl => h4 (g4 hl)⟩
      rw [h2, g2]
      simp [floatsG, gapW]
    | false =>
      simp only [if_false, Bool.false_eq_true] at h1 h2 h3 h4 g1 g2 g3 g4 ⊢
      obtain ⟨m1, m2, m3, m4⟩ := must_ok _ _ _ g1
      refine ⟨m1, ?_, by omega, fun hl => h4 (g4 (m4 hl))⟩
      rw [h2, g2, m2]
      simp [floatsG, gapW]
/-! Lines, and a save. -/
def linesS {α : Type} (s one : By) (line : St → α × St) : Nat → St → List α × St
  | 0, st => ([], st)
  | k + 1, st => if st.2 < 0 then
      let r := line (mustS s [one, [32]] st)
      let q := linesS s one line k (mustS s [[10]] r.2)
      (r.1 :: q.1, q.2)
    else ([], st)
/-- How a line's text is read back. -/
def LineOk {α : Type} (s : By) (line : St → α × St) (w : α → By) : Prop :=
  ∀ st, (line st).2.2 < 0 → st.2 < 0 ∧ s.take (line st).2.1 = s.take st.1 ++ w (line st).1 ∧ st.1 ≤ (line st).2.1 ∧ (st.1 ≤ s.length → (line st).2.1 ≤ s.length)
theorem lines_ok {α : Type} (s one : By) (line : St → α × St) (w : α → By) (hl : LineOk s line w) : ∀ (k : Nat) (st : St), (linesS s one line k st).2.2 < 0 → st.2 < 0 ∧
    s.take (linesS s one line k st).2.1 = s.take st.1 ++ ((linesS s one line k st).1.flatMap fun x => one ++ [32] ++ w x ++ [10]) ∧ st.1 + (linesS s one line k st).1.length ≤ (linesS s one line k st).2.1 ∧
    (linesS s one line k st).1.length = k ∧ (st.1 ≤ s.length → (linesS s one line k st).2.1 ≤ s.length) := by
  intro k
  induction k with
  | zero => intro st h; exact ⟨h, by simp [linesS], Nat.le_refl _, rfl, fun h => h⟩
  | succ k ih =>
    intro st h
    by_cases h0 : st.2 < 0
    · simp only [linesS, if_pos h0] at h ⊢
      obtain ⟨h1, h2, h3, h4, h5⟩ := ih _ h
      obtain ⟨m1, m2, m3, m4⟩ := must_ok _ _ _ h1
      obtain ⟨l1, l2, l3, l4⟩ := hl _ m1
      obtain ⟨n1, n2, n3, n4⟩ := must_ok _ _ _ l1
      refine ⟨h0, ?_, ?_, by simp [h4], fun hl => h5 (m4 (l4 (n4 hl)))⟩
      · rw [h2, m2, l2, n2]
        simp
      · simp at m3 n3 ⊢
        omega
    · simp only [linesS, if_neg h0] at h
      exact absurd h h0
/-- FNV-1a of 64 bits. -/
def sumS (l : By) : Nat := l.foldl (fun n c => ((n ^^^ c.toNat) * 1099511628211) % 18446744073709551616) 14695981039346656037
def headL (kind word : By) : List By := [[101, 100, 100, 121], [32], kind, [32], [49], [10], word, [32]]
/-- What stands behind the lines: the sum is told, and where. -/
structure Ends where
  fin : Nat
  told : Nat
  at' : Nat
  st : St
def endsS (s : By) (st : St) : Ends :=
  let st4 := mustS s [[115, 117, 109], [32]] st
  let r := sixteenS s st4
  let st6 := mustS s [[10]] r.2
  { fin := st.1, told := r.1, at' := st4.1, st := if st6.2 < 0 ∧ st6.1 < s.length then (st6.1, (st6.1 : Int)) else st6 }
/-- A save: its lines' things, and the fault: its code and its place; code 0: none. -/
def readS {α : Type} (s kind word one : By) (line : St → α × St) : List α × Int × Int :=
  if 65536 < s.length then ([], 3, 0)
  else
    let r := wholeS s 63 (mustS s (headL kind word) (0, -1))
    let q := linesS s one line r.1 (mustS s [[10]] r.2)
    let e := endsS s q.2
    if e.st.2 < 0 then (if e.told = sumS (s.take e.fin) then (q.1, 0, 0) else (q.1, 291, (e.at' : Int))) else (q.1, 290, e.st.2)
def savedW (kind word : By) (n : Nat) (body : By) : By :=
  let t := [101, 100, 100, 121, 32] ++ kind ++ [32, 49, 10] ++ word ++ [32] ++ decW n ++ [10] ++ body
  t ++ [115, 117, 109, 32] ++ hexW 16 (sumS t) ++ [10]
theorem read_ok {α : Type} (s kind word one : By) (line : St → α × St) (w : α → By) (hl : LineOk s line w) (h : (readS s kind word one line).2.1 = 0) :
    s.length ≤ 65536 ∧ (readS s kind word one line).1.length ≤ s.length ∧ s = savedW kind word (readS s kind word one line).1.length ((readS s kind word one line).1.flatMap fun x => one ++ [32] ++ w x ++ [10]) := by
  unfold readS at h ⊢
  by_cases h0 : 65536 < s.length
  · rw [if_pos h0] at h; cases h
  · simp only [if_neg h0] at h ⊢
    generalize hr : wholeS s 63 (mustS s (headL kind word) (0, -1)) = r at h ⊢
    generalize hq : linesS s one line r.1 (mustS s [[10]] r.2) = q at h ⊢
    by_cases h1 : (endsS s q.2).st.2 < 0
    · simp only [if_pos h1] at h ⊢
      by_cases h2 : (endsS s q.2).told = sumS (s.take (endsS s q.2).fin)
      · simp only [if_pos h2] at h ⊢
        clear h
        unfold endsS at h1 h2
        simp only [] at h1 h2
        split at h1
        · simp at h1; omega
        · rename_i hns
          simp only [h1, true_and, Nat.not_lt] at hns
          obtain ⟨a1, a2, a3, a4⟩ := must_ok _ _ _ h1
          obtain ⟨b1, b2, b3, b4⟩ := sixteen_ok _ _ a1
          obtain ⟨c1, c2, c3, c4⟩ := must_ok _ _ _ b1
          rw [← hq] at c1
          obtain ⟨d1, d2, d3, d4, d5⟩ := lines_ok s one line w hl _ _ c1
          rw [hq] at d2 d3 d4 d5
          obtain ⟨e1, e2, e3, e4⟩ := must_ok _ _ _ d1
          rw [← hr] at e1
          obtain ⟨f1, f2, f3, f4, f5⟩ := whole_ok _ _ _ e1
          rw [hr] at f2 f3 f4 f5
          obtain ⟨g1, g2, g3, g4⟩ := must_ok _ _ _ f1
          have hend : q.2.1 ≤ s.length := d5 (e4 (f5 (g4 (by simp))))
          refine ⟨by omega, by omega, ?_⟩
          have hs : s.take (mustS s [[10]] (sixteenS s (mustS s [[115, 117, 109], [32]] q.2)).2).1 = s := List.take_of_length_le hns
          have ht : s.take q.2.1 = [101, 100, 100, 121, 32] ++ kind ++ [32, 49, 10] ++ word ++ [32] ++ decW q.1.length ++ [10] ++ (q.1.flatMap fun x => one ++ [32] ++ w x ++ [10]) := by
            rw [d2, e2, f2, g2, d4]
            simp [headL]
          rw [← hs, a2, b2, c2, h2, ht]
          unfold savedW
          simp
      · simp only [if_neg h2] at h; cases h
    · simp only [if_neg h1] at h; cases h
/-! The four readers. -/
def numS (s : By) (st : St) : (Nat × Nat) × St :=
  let r := floatS s st
  let q := floatS s (mustS s [[32]] r.2)
  ((r.1, q.1), q.2)
theorem num_ok (s : By) (st : St) (h : (numS s st).2.2 < 0) : st.2 < 0 ∧ s.take (numS s st).2.1 = s.take st.1 ++ floatsW [(numS s st).1.1, (numS s st).1.2] ∧ st.1 ≤ (numS s st).2.1 ∧ (st.1 ≤ s.length → (numS s st).2.1 ≤ s.length) := by
  unfold numS at h ⊢
  obtain ⟨a1, a2, a3, a4⟩ := float_ok _ _ h
  obtain ⟨b1, b2, b3, b4⟩ := must_ok _ _ _ a1
  obtain ⟨c1, c2, c3, c4⟩ := float_ok _ _ b1
  refine ⟨c1, ?_, ?_, fun hl => a4 (b4 (c4 hl))⟩
  · rw [a2, b2, c2]; simp [floatsW]
  · simp at b3 ⊢; omega
/-- A kind, a place, a strength, a power: their bits. -/
abbrev El := Nat × (Nat × Nat) × (Nat × Nat) × Nat
abbrev Tr := (Nat × Nat) × Nat × Nat
abbrev Wh := (Nat × Nat) × Nat
def elemS (s : By) (st : St) : El × St :=
  let a := wholeS s 8 st
  let b := numS s (mustS s [[32]] a.2)
  let c := numS s (mustS s [[32]] b.2)
  let d := floatS s (mustS s [[32]] c.2)
  ((a.1, b.1, c.1, d.1), d.2)
def tracS (s : By) (st : St) : Tr × St :=
  let b := numS s st
  let c := floatS s (mustS s [[32]] b.2)
  let d := wholeS s 8 (mustS s [[32]] c.2)
  ((b.1, c.1, d.1), d.2)
def whirS (s : By) (st : St) : Wh × St :=
  let b := numS s st
  let c := floatS s (mustS s [[32]] b.2)
  ((b.1, c.1), c.2)
def elW (x : El) : By := decW x.1 ++ [32] ++ floatsW [x.2.1.1, x.2.1.2, x.2.2.1.1, x.2.2.1.2, x.2.2.2]
def trW (x : Tr) : By := floatsW [x.1.1, x.1.2, x.2.1] ++ [32] ++ decW x.2.2
def whW (x : Wh) : By := floatsW [x.1.1, x.1.2, x.2]
theorem elem_ok (s : By) : LineOk s (elemS s) elW := by
  intro st h
  simp only [elemS] at h ⊢
  generalize ha : wholeS s 8 st = a at h ⊢
  generalize hb : numS s (mustS s [[32]] a.2) = b at h ⊢
  generalize hc : numS s (mustS s [[32]] b.2) = c at h ⊢
  generalize hd : floatS s (mustS s [[32]] c.2) = d at h ⊢
  have A := float_ok s (mustS s [[32]] c.2) (by rw [hd]; exact h)
  rw [hd] at A
  obtain ⟨a1, a2, a3, a4⟩ := A
  obtain ⟨b1, b2, b3, b4⟩ := must_ok _ _ _ a1
  have C := num_ok s (mustS s [[32]] b.2) (by rw [hc]; exact b1)
  rw [hc] at C
  obtain ⟨c1, c2, c3, c4⟩ := C
  obtain ⟨d1, d2, d3, d4⟩ := must_ok _ _ _ c1
  have E := num_ok s (mustS s [[32]] a.2) (by rw [hb]; exact d1)
  rw [hb] at E
  obtain ⟨e1, e2, e3, e4⟩ := E
  obtain ⟨f1, f2, f3, f4⟩ := must_ok _ _ _ e1
  have G := whole_ok s 8 st (by rw [ha]; exact f1)
  rw [ha] at G
  obtain ⟨g1, g2, g3, g4, g5⟩ := G
  refine ⟨g1, ?_, ?_, fun hl => a4 (b4 (c4 (d4 (e4 (f4 (g5 hl))))))⟩
  · rw [a2, b2, c2, d2, e2, f2, g2]; simp [floatsW, elW]
  · simp at b3 d3 f3 ⊢; omega
theorem trac_ok (s : By) : LineOk s (tracS s) trW := by
  intro st h
  unfold tracS at h ⊢
  obtain ⟨a1, a2, a3, a4, a5⟩ := whole_ok _ _ _ h
  obtain ⟨b1, b2, b3, b4⟩ := must_ok _ _ _ a1
  obtain ⟨c1, c2, c3, c4⟩ := float_ok _ _ b1
  obtain ⟨d1, d2, d3, d4⟩ := must_ok _ _ _ c1
  obtain ⟨e1, e2, e3, e4⟩ := num_ok _ _ d1
  refine ⟨e1, ?_, ?_, fun hl => a5 (b4 (c4 (d4 (e4 hl))))⟩
  · rw [a2, b2, c2, d2, e2]; simp [floatsW, trW]
  · simp at b3 d3 ⊢; omega
theorem whir_ok (s : By) : LineOk s (whirS s) whW := by
  intro st h
  unfold whirS at h ⊢
  obtain ⟨c1, c2, c3, c4⟩ := float_ok _ _ h
  obtain ⟨d1, d2, d3, d4⟩ := must_ok _ _ _ c1
  obtain ⟨e1, e2, e3, e4⟩ := num_ok _ _ d1
  refine ⟨e1, ?_, ?_, fun hl => c4 (d4 (e4 hl))⟩
  · rw [c2, d2, e2]; simp [floatsW, whW]
  · simp at d3 ⊢; omega
def wFlow : By := [102, 108, 111, 119]
def wElements : By := [101, 108, 101, 109, 101, 110, 116, 115]
def wElement : By := [101, 108, 101, 109, 101, 110, 116]
def wTracers : By := [116, 114, 97, 99, 101, 114, 115]
def wTracer : By := [116, 114, 97, 99, 101, 114]
def wWhirls : By := [119, 104, 105, 114, 108, 115]
def wWhirl : By := [119, 104, 105, 114, 108]
def readF (s : By) : List El × Int × Int := readS s wFlow wElements wElement (elemS s)
def readT (s : By) : List Tr × Int × Int := readS s wTracers wTracers wTracer (tracS s)
def readW (s : By) : List Wh × Int × Int := readS s wWhirls wWhirls wWhirl (whirS s)
def flowW (l : List El) : By := savedW wFlow wElements l.length (l.flatMap fun x => wElement ++ [32] ++ elW x ++ [10])
def tracersW (l : List Tr) : By := savedW wTracers wTracers l.length (l.flatMap fun x => wTracer ++ [32] ++ trW x ++ [10])
def whirlsW (l : List Wh) : By := savedW wWhirls wWhirls l.length (l.flatMap fun x => wWhirl ++ [32] ++ whW x ++ [10])
theorem readF_ok {s : By} (h : (readF s).2.1 = 0) : s.length ≤ 65536 ∧ (readF s).1.length ≤ s.length ∧ s = flowW (readF s).1 := read_ok s _ _ _ _ _ (elem_ok s) h
theorem readT_ok {s : By} (h : (readT s).2.1 = 0) : s.length ≤ 65536 ∧ (readT s).1.length ≤ s.length ∧ s = tracersW (readT s).1 := read_ok s _ _ _ _ _ (trac_ok s) h
theorem readW_ok {s : By} (h : (readW s).2.1 = 0) : s.length ≤ 65536 ∧ (readW s).1.length ≤ s.length ∧ s = whirlsW (readW s).1 := read_ok s _ _ _ _ _ (whir_ok s) h
def readN (s : By) : (Nat × Nat) × Int × Int :=
  if 65536 < s.length then ((0, 0), 3, 0)
  else
    let r := numS s (0, -1)
    if r.2.2 < 0 then (if r.2.1 < s.length then ((0, 0), 290, (r.2.1 : Int)) else (r.1, 0, 0)) else ((0, 0), 290, r.2.2)
theorem readN_ok {s : By} (h : (readN s).2.1 = 0) : s = floatsW [(readN s).1.1, (readN s).1.2] := by
  unfold readN at h ⊢
  by_cases h0 : 65536 < s.length
  · rw [if_pos h0] at h; cases h
  · simp only [if_neg h0] at h ⊢
    by_cases h1 : (numS s (0, -1)).2.2 < 0
    · simp only [if_pos h1] at h ⊢
      by_cases h2 : (numS s (0, -1)).2.1 < s.length
      · rw [if_pos h2] at h; cases h
      · simp only [if_neg h2]
        obtain ⟨-, a2, -, -⟩ := num_ok _ _ h1
        rw [List.take_of_length_le (by omega)] at a2
        simpa using a2
    · rw [if_neg h1] at h; cases h
end
section
open Go.RowKit


theorem Keeps.drewN {B : Nat} {S : List Nat} {a w : World} (h : Keeps B S a w) (n : Nat) : Keeps B S a (w.drewN n) := ⟨h.os, h.tape, h.output, h.size, h.block⟩
theorem Rd.drewN {w : World} {rb : Nat} {s : ByteArray} {i : Nat} {a : Int} (h : Rd w rb s i a) (n : Nat) : Rd (w.drewN n) rb s i a := h
theorem Rd.move {w : World} {rb : Nat} {s : ByteArray} {i : Nat} {a : Int} (h : Rd w rb s i a) (j : Nat) : Rd (w.setCell ⟨rb, 1, none⟩ (.int .i64 j)) rb s j a := set_of_block h 1 _
/-- Is a byte in a row? -/
def inRow (row : ByteArray) (c : UInt8) : Bool := decide (0 ≤ Lib.indexByte row.data.toList c)
theorem run_len (l : By) (p : UInt8 → Bool) (most i k : Nat) (hall : ∀ j, j < k → ∃ c, l[i + j]? = some c ∧ p c = true) (hm : k ≤ most) (hend : k = most ∨ l[i + k]? = none ∨ ∃ c, l[i + k]? = some c ∧ p c = false) : (runS l p most i).length = k := by
  unfold runS
  generalize hd : (l.drop i).take most = d
  have hg : ∀ j, j < most → d[j]? = l[i + j]? := by
    intro j hj
    rw [← hd, List.getElem?_take_of_lt hj, List.getElem?_drop]
  have hlen : d.length ≤ most := by rw [← hd]; simp; omega
  clear hd
  have key : ∀ (d : By) (k : Nat), (∀ j, j < k → ∃ c, d[j]? = some c ∧ p c = true) → (d[k]? = none ∨ ∃ c, d[k]? = some c ∧ p c = false) → (d.takeWhile p).length = k := by
    intro d
    induction d with
    | nil =>
      intro k h1 h2
      cases k with
      | zero => rfl
      | succ k => obtain ⟨c, hc, _⟩ := h1 0 (by omega); simp at hc
    | cons x d ih =>
      intro k h1 h2
      cases k with
      | zero =>
        rcases h2 with h | ⟨c, hc, hp⟩
        · simp at h
        · simp at hc; subst hc; simp [List.takeWhile_cons, hp]
      | succ k =>
        obtain ⟨c, hc, hp⟩ := h1 0 (by omega)
        simp at hc
        subst hc
        simp only [List.takeWhile_cons, hp, if_true, List.length_cons]
        rw [ih k (fun j hj => by simpa using h1 (j + 1) (by omega)) (by simpa using h2)]
  refine key d k (fun j hj => ?_) ?_
  · obtain ⟨c, h1, h2⟩ := hall j hj
    exact ⟨c, by rw [hg j (by omega)]; exact h1, h2⟩
  · rcases hend with h | h
    · left; rw [List.getElem?_eq_none]; omega
    · by_cases hk : k < most
      · rw [hg k hk]; exact h
      · left; rw [List.getElem?_eq_none]; omega
set_option maxRecDepth 100000 in
set_option maxHeartbeats 2000000 in
theorem run_any (rb : Nat) (s row : ByteArray) (i : Nat) (a : Int) (most : Nat) (w : World) (h : Rd w rb s i a) (hi : i ≤ s.size) (hs : s.size ≤ 70000) (hm : most ≤ 70000) :
    Calls Tryz.prog 206 #[.pointer (some ⟨rb, 0, none⟩), .string row, .int .i64 most] w fun e w' => e = .returned (.string (s.extract i (i + (runS s.data.toList (inRow row) most i).length))) ∧
      Rd w' rb s (i + (runS s.data.toList (inRow row) most i).length) a ∧ Keeps w.heap.size [rb] w w' := by
  have c0 := cell_of_block h 0
  have c1 := cell_of_block h 1
  simp at c0 c1
  have H := hid h
  clear h
  go_enter Tryz.func206, Tryz.ntmps206
  go_wp2_with fail
  go_loopw [] (fun wr => ∃ k : Nat, k ≤ most ∧ i + k ≤ s.size ∧ Rd wr rb s (i + k) a ∧ Keeps w.heap.size [rb] w wr ∧ ∀ j, j < k → ∃ c, s.data.toList[i + j]? = some c ∧ inRow row c = true) (fun wr => match wr.cell? ⟨rb, 1, none⟩ with | some v => s.size - (intOf v).toNat | none => 0)
  case atStart => exact ⟨0, Nat.zero_le _, hi, H.out, Keeps.refl _ _ _, fun j hj => by omega⟩
  case round =>
    obtain ⟨k, hk, hik, HR, HK, hall⟩ := hrel
    obtain ⟨n, hn⟩ : ∃ n, n = i + k := ⟨_, rfl⟩
    rw [← hn] at HR
    have d0 := cell_of_block HR 0
    have d1 := cell_of_block HR 1
    have g1 := free_of_block HR 1
    simp at d0 d1
    have hsub : IntKind.i64.wrap ((n : Int) - (i : Int)) = (k : Int) := by
      have : (n : Int) - (i : Int) = k := by omega
      rw [this]
      exact IntWalk.i64_in _ (by omega)
    have hin : i ≤ n := by omega
    have hin' : (i : Int) ≤ (n : Int) := by omega
    have hns : n ≤ s.size := by omega
    have hns' : (n : Int) ≤ (s.size : Int) := by omega
    have hi0 : (0 : Int) ≤ (i : Int) := by omega
    have HRR := hid HR
    have HKK := hid HK
    have HALL := hid hall
    have HN := hid hn
    clear HR HK hall
    by_cases h1 : n < s.size
    · have h1' : (n : Int) < (s.size : Int) := by omega
      by_cases h2 : k < most
      · have h2' : (k : Int) < (most : Int) := by omega
        have hn0 : (0 : Int) ≤ (n : Int) := by omega
        clear hn
        have hget : s.data.toList[n]? = some s[n] := by
          rw [Array.getElem?_toList]
          exact Array.getElem?_eq_getElem (by simpa using h1)
        cases hp : inRow row s[n]
        · have hp' : decide (0 ≤ Lib.indexByte row.data.toList s[n]) = false := hp
          have HG := hid hget
          have HP := hid hp
          clear hget hp
          go_wp2_with fail
          go_quiet ((go_at_call 215; exact Calls.quiet_of_same (Tryz.strings_IndexByte _ _ _)))
          go_wp2_with fail
          go_quiet (fail)
          go_wp2_with fail
          go_ret
          have hl := run_len s.data.toList (inRow row) most i k HALL.out (by omega) (Or.inr (Or.inr ⟨_, by rw [← HN.out]; exact HG.out, HP.out⟩))
          rw [hl, ← HN.out]
          exact ⟨rfl, HRR.out, (HKK.out.drewN _).drewN _⟩
        · have hp' : decide (0 ≤ Lib.indexByte row.data.toList s[n]) = true := hp
          have HG := hid hget
          have HP := hid hp
          clear hget hp
          go_wp2_with fail
          go_quiet ((go_at_call 215; exact Calls.quiet_of_same (Tryz.strings_IndexByte _ _ _)))
          go_wp2_with fail
          have hn := HN.out
          have R1 : Rd ((wr.drewN nq).setCell ⟨rb, 1, none⟩ (.int .i64 (n + 1))) rb s (n + 1) a := (HRR.out.drewN nq).move (n + 1)
          have e1 := cell_of_block R1 1
          have e2 := cell_of_block HRR.out 1
          simp only [List.getElem?_toArray, List.getElem?_cons_succ, List.getElem?_cons_zero] at e1 e2
          refine ⟨⟨k + 1, by omega, by omega, ?_, (HKK.out.drewN nq).set (Or.inl (by simp)) _ _, ?_⟩, ?_⟩
          · rw [show i + (k + 1) = n + 1 by omega]; exact R1
          · intro j hj
            by_cases hjk : j < k
            · exact HALL.out j hjk
            · obtain rfl : j = k := by omega
              rw [← hn]
              exact ⟨_, HG.out, HP.out⟩
          · rw [e1, e2]
            simp only [intOf]
            omega
      · have h2' : ¬ (k : Int) < (most : Int) := by omega
        have h2'' : decide ((k : Int) < (most : Int)) = false := by simpa using h2'
        obtain rfl : k = most := by omega
        clear hn
        go_wp2_with fail
        go_quiet (fail)
        go_wp2_with fail
        go_quiet (fail)
        go_wp2_with fail
        go_ret
        have hl := run_len s.data.toList (inRow row) k i k HALL.out (by omega) (Or.inl rfl)
        rw [hl, ← HN.out]
        exact ⟨rfl, HRR.out, (HKK.out.drewN _).drewN _⟩
    · have h1' : ¬ (n : Int) < (s.size : Int) := by omega
      have h1'' : decide (n < s.size) = false := by simpa using h1
      clear hn
      go_wp2_with fail
      go_quiet (fail)
      go_wp2_with fail
      go_quiet (fail)
      go_wp2_with fail
      go_ret
      have hl := run_len s.data.toList (inRow row) most i k HALL.out (by omega) (Or.inr (Or.inl (by rw [← HN.out]; apply List.getElem?_eq_none; simpa using h1)))
      rw [hl, ← HN.out]
      exact ⟨rfl, HRR.out, (HKK.out.drewN _).drewN _⟩
end
section
open Go.RowKit


theorem prefix_eq (s p : ByteArray) (i : Nat) (hi : i ≤ s.size) : Lib.hasPrefix (s.extract i s.size).data.toList p.data.toList = p.data.toList.isPrefixOf (s.data.toList.drop i) := by
  unfold Lib.hasPrefix
  rw [Lib.extract_to_end]
set_option maxRecDepth 100000 in
set_option maxHeartbeats 2000000 in
theorem must_any (rb : Nat) (s : ByteArray) (i : Nat) (a : Int) (ws : List ByteArray) (g n c : Nat) (w : World) (h : Rd w rb s i a) (hi : i ≤ s.size) (hs : s.size ≤ 70000) (hn : ws.length = n) (hn2 : n ≤ 100) (hg : g ≠ rb) (hg2 : g < w.heap.size)
    (hc : ∀ j, j < n → w.cell? ⟨g, j, none⟩ = some (.string (ws.getD j default))) :
    Calls Tryz.prog 186 #[.pointer (some ⟨rb, 0, none⟩), .slice (some ⟨g, 0, none⟩) n c] w fun e w' => e = .returned (.tuple #[]) ∧
      Rd w' rb s (mustS s.data.toList (ws.map fun x => x.data.toList) (i, a)).1 (mustS s.data.toList (ws.map fun x => x.data.toList) (i, a)).2 ∧ Keeps w.heap.size [rb] w w' := by
  have H := hid h
  have C := hid hc
  clear h hc
  go_enter Tryz.func186, Tryz.ntmps186
  go_wp2_with fail
  go_loopw [8] (fun t wr => ∃ (k i' : Nat) (a' : Int), k ≤ n ∧ t = .int .i64 k ∧ i' ≤ s.size ∧ Rd wr rb s i' a' ∧ Keeps w.heap.size [rb] w wr ∧ mustS s.data.toList ((ws.drop k).map fun x => x.data.toList) (i', a') = mustS s.data.toList (ws.map fun x => x.data.toList) (i, a)) (fun t _ => n - (intOf t).toNat)
  case atStart => exact ⟨0, i, a, Nat.zero_le _, rfl, hi, H.out, Keeps.refl _ _ _, rfl⟩
  case round =>
    obtain ⟨k, i', a', hk, rfl, hi', HR, HK, hm⟩ := hrel
    have hsz := HK.size
    by_cases hlt : k < n
    · have ck : wr.cell? ⟨g, k, none⟩ = some (.string (ws.getD k default)) := (HK.cell (q := ⟨g, k, none⟩) hg2 (by simpa using hg)).trans (C.out k hlt)
      have hdr : ws.drop k = ws.getD k default :: ws.drop (k + 1) := by
        rw [List.drop_eq_getElem_cons (by omega), List.getD_eq_getElem?_getD, List.getElem?_eq_getElem (by omega)]
        rfl
      rw [hdr, List.map_cons] at hm
      generalize hx : ws.getD k default = x at ck hm
      clear hx hdr
      have hpe := prefix_eq s x i' hi'
      have hpf := prefix_eq s x i' hi'
      rw [Lib.extract_data] at hpf
      have d0 := cell_of_block HR 0
      have d1 := cell_of_block HR 1
      have d2 := cell_of_block HR 2
      have f1 := free_of_block HR 1
      simp at d0 d1 d2
      have HRR := hid HR
      have HKK := hid HK
      have HM := hid hm
      clear HR HK hm
      by_cases ha : a' < 0
      · have hd : decide (a' < 0) = true := by simpa using ha
        cases hp : x.data.toList.isPrefixOf (s.data.toList.drop i')
        · rw [hp] at hpe hpf
          have HP := hid hp
          clear hp
          go_wp2_with (go_at_call 188; ((with_reducible refine (ok_any rb s i' a' _ HRR.out).mono ?_); rintro e w' ⟨rfl, rfl⟩))
          go_quiet ((go_at_call 103; exact Calls.quiet_of_same (Tryz.strings_HasPrefix _ _ _)))
          go_wp2_with fail
          refine (wrong_any rb s i' a' i' _ (HRR.out.drewN nq)).mono ?_
          rintro e wq ⟨rfl, hR, hK⟩
          go_wp2_with fail
          refine bodyPost_ret (results_none rfl _ _ _) rfl ?_
          have e1 := HM.out
          rw [mustS, if_pos ha, if_neg (by rw [HP.out]; decide)] at e1
          rw [← e1]
          rw [if_pos ha] at hR
          exact ⟨rfl, hR, (HKK.out.drewN nq).trans (hK.mono (by rw [show (wr.drewN nq).heap.size = wr.heap.size from rfl]; omega) (fun _ _ h => h))⟩
        · rw [hp] at hpe hpf
          have HP := hid hp
          have hle : i' + x.size ≤ s.size := by
            obtain ⟨t, ht⟩ := List.isPrefixOf_iff_prefix.1 hp
            have h1 : (s.data.toList.drop i').length = x.data.toList.length + t.length := by rw [← ht]; simp
            simp at h1
            have e1 : s.data.size = s.size := rfl
            have e2 : x.data.size = x.size := rfl
            omega
          clear hp
          go_wp2_with (go_at_call 188; ((with_reducible refine (ok_any rb s i' a' _ HRR.out).mono ?_); rintro e w' ⟨rfl, rfl⟩))
          go_quiet ((go_at_call 103; exact Calls.quiet_of_same (Tryz.strings_HasPrefix _ _ _)))
          go_wp2_with fail
          go_roundw
          case rel =>
            have R1 : Rd ((wr.drewN nq).setCell ⟨rb, 1, none⟩ (.int .i64 (i' + x.size))) rb s (i' + x.size) a' := (HRR.out.drewN nq).move (i' + x.size)
            have e1 := HM.out
            rw [mustS, if_pos ha, if_pos HP.out] at e1
            exact ⟨k + 1, i' + x.size, a', by omega, by rfl, hle, R1, (HKK.out.drewN nq).set (Or.inl (by simp)) _ _, e1⟩
          case measure => simp [intOf]; omega
      · have hd : decide (a' < 0) = false := by simpa using ha
        go_wp2_with (go_at_call 188; ((with_reducible refine (ok_any rb s i' a' _ HRR.out).mono ?_); rintro e w' ⟨rfl, rfl⟩))
        refine bodyPost_ret (results_none rfl _ _ _) rfl ?_
        have e1 := HM.out
        rw [must_not _ _ _ (by show ¬ a' < 0; omega)] at e1
        rw [← e1]
        exact ⟨rfl, HRR.out, HKK.out⟩
    · obtain rfl : k = n := by omega
      have e1 := hm
      rw [List.drop_of_length_le (by omega)] at e1
      have HRR := hid HR
      have HKK := hid HK
      have HE := hid e1
      clear hm e1 HR HK
      go_wp2_with fail
      go_end0
      have e1 := HE.out
      rw [List.map_nil, mustS] at e1
      rw [← e1]
      exact ⟨rfl, HRR.out, HKK.out⟩
end
section
open Go.RowKit


theorem or32 (c : UInt8) (h : 97 ≤ c.toNat ∧ c.toNat ≤ 102) : bits .or .u8 (c.toNat : Int) 32 = (c.toNat : Int) := by
  have H : ∀ n : Fin 256, 97 ≤ n.1 ∧ n.1 ≤ 102 → bits .or .u8 (n.1 : Int) 32 = (n.1 : Int) := by decide +kernel
  exact H ⟨c.toNat, UInt8.toNat_lt c⟩ h
theorem isHex_iff (c : UInt8) : isHex c = true ↔ (48 ≤ c.toNat ∧ c.toNat ≤ 57) ∨ (97 ≤ c.toNat ∧ c.toNat ≤ 102) := by
  unfold isHex
  simp [UInt8.le_iff_toNat_le]
theorem lower_any (c : Int) (w : World) : Calls Tryz.prog 217 #[.int .u8 c] w fun e w' => e = .returned (.int .u8 (bits .or .u8 c 32)) ∧ w = w' := by
  go_enter Tryz.func217, Tryz.ntmps217
  go_wp2
  go_ret
  exact ⟨rfl, rfl⟩
theorem hexV_lt (d : By) (hd : ∀ c ∈ d, isHex c = true) : hexV d < 16 ^ d.length := by
  induction h : d.length generalizing d with
  | zero => rw [List.eq_nil_of_length_eq_zero h]; decide
  | succ n ih =>
    have hne : d ≠ [] := by intro e; rw [e] at h; cases h
    obtain ⟨d', c, rfl⟩ : ∃ d' c, d = d' ++ [c] := ⟨d.dropLast, d.getLast hne, (List.dropLast_concat_getLast hne).symm⟩
    have h1 := hexC_hexD c (hd c (by simp))
    have h2 := ih d' (fun x hx => hd x (by simp [hx])) (by simpa using h)
    rw [hexV_snoc, Nat.pow_succ]
    omega
theorem take_snoc' (l : By) (k : Nat) (h : k < l.length) : l.take (k + 1) = l.take k ++ [l.getD k 0] := by
  rw [List.take_succ_eq_append_getElem h, List.getD_eq_getElem?_getD, List.getElem?_eq_getElem h]
  rfl
set_option maxHeartbeats 8000000 in
set_option maxRecDepth 100000 in
/-- internal/strconv.ParseUint of sixteen sixteens. -/
theorem iparse16 (t : ByteArray) (hsz : t.size = 16) (hh : ∀ c ∈ t.data.toList, isHex c = true) (w : World) :
    Calls Tryz.prog 203 #[.string t, .int .i64 16, .int .i64 64] w fun e w' => e = .returned (.tuple #[.int .u64 (hexV t.data.toList), .nilIface]) ∧ Below w.heap.size w w' := by
  have hemp : t.toList.isEmpty = false := by
    rw [← decide_eq_emptyBytes]
    exact decide_eq_false (fun h => by rw [h] at hsz; cases hsz)
  have hcv := Lib.run_convert_string_bytes (P := Tryz.prog) w 9 22 5 t (u := .string) Tryz.underlying9 Tryz.underlying22 Tryz.underlying5
  have hB : ∀ j, j < t.size → (Lib.bytesWorld w 5 t).cell? ⟨w.heap.size, j, none⟩ = some (.int .u8 (t.data.toList.getD j 0).toNat) := fun j hj => Lib.bytesWorld_cell w 5 t j hj
  have hbel : Below w.heap.size w (Lib.bytesWorld w 5 t) := ⟨rfl, rfl, rfl, by rw [Lib.bytesWorld_size]; omega, fun j hj => Lib.bytesWorld_at_old w 5 t j hj⟩
  obtain ⟨W1, hW1⟩ : ∃ W1, W1 = Lib.bytesWorld w 5 t := ⟨_, rfl⟩
  rw [← hW1] at hcv hB hbel
  clear hW1
  obtain ⟨bs, hL⟩ : ∃ bs, bs = t.data.toList := ⟨_, rfl⟩
  have hLn : bs.length = 16 := by rw [hL, ← hsz]; simp
  rw [← hL] at hB hh ⊢
  have HSZ := hid hsz
  rw [hsz] at hcv hB
  clear hL hsz
  have hmv : IntKind.u64.wrap (IntKind.u64.wrap 18446744073709551616 - 1) = 18446744073709551615 := by
    rw [IntKind.wrap_u64, IntKind.wrap_u64]
    decide
  have HB := hid hB
  have HH := hid hh
  have HBEL := hid hbel
  clear hB hh hbel
  go_enter Tryz.func203, Tryz.ntmps203
  go_wp2
  go_loop [12, 13, 101] (fun vu vn vi => ∃ (k : Nat) (a : Int), vu = .bool false ∧ vn = .int .u64 a ∧ vi = .int .i64 k ∧ k ≤ 16 ∧ Hid (a = ((hexV (bs.take k) : Nat) : Int))) (fun _ _ vi => 16 - (intOf vi).toNat)
  case atStart => exact ⟨0, 0, rfl, rfl, rfl, by omega, hid rfl⟩
  case round =>
    obtain ⟨k, a, rfl, rfl, rfl, hk, hha⟩ := hrel
    have hlt : hexV (bs.take k) < 16 ^ k := by
      have := hexV_lt (bs.take k) (fun c hc => HH.out c (List.mem_of_mem_take hc))
      rwa [List.length_take, Nat.min_eq_left (by omega)] at this
    have ha0 : 0 ≤ a := by rw [hha.out]; omega
    by_cases hkn : k < 16
    · have hp : 16 ^ k ≤ 16 ^ 15 := Nat.pow_le_pow_right (by decide) (by omega)
      have ha1 : a < 1152921504606846976 := by
        rw [hha.out]
        have : (16 : Nat) ^ 15 = 1152921504606846976 := by decide
        omega
      clear hlt hp
      have hc := HB.out k hkn
      have hx := HH.out (bs.getD k 0) (by rw [List.getD_eq_getElem?_getD, List.getElem?_eq_getElem (by omega)]; simp)
      have hs := take_snoc' bs k (by omega)
      have HS := hid hs
      clear hs
      generalize hcx : bs.getD k 0 = c at hc hx HS
      clear hcx
      have hc256 : c.toNat < 256 := c.toNat_lt
      have hor := or32 c
      rw [isHex_iff] at hx
      rcases hx with ⟨h1, h2⟩ | ⟨h1, h2⟩
      · have hd : hexD c = c.toNat - 48 := by unfold hexD; rw [if_pos (by simp [UInt8.le_iff_toNat_le]; omega)]
        have HN : Hid (a * 16 + ((c.toNat : Int) - 48) = ((hexV (bs.take (k + 1)) : Nat) : Int)) := by
          rw [HS.out, hexV_snoc, hd, hha.out]
          exact hid (by omega)
        clear hor hd hha
        go_wp2
        exact ⟨⟨k + 1, _, rfl, rfl, by rfl, by omega, HN⟩, by simp [intOf]; omega⟩
      · have hd : hexD c = c.toNat - 87 := by unfold hexD; rw [if_neg (by simp [UInt8.le_iff_toNat_le]; omega)]
        have hor' := or32 c ⟨h1, h2⟩
        have HN : Hid (a * 16 + ((c.toNat : Int) - 97 + 10) = ((hexV (bs.take (k + 1)) : Nat) : Int)) := by
          rw [HS.out, hexV_snoc, hd, hha.out]
          exact hid (by omega)
        clear hor hd hha
        go_wp2_with (go_at_call 217; ((with_reducible refine (lower_any _ _).mono ?_); rintro e w' ⟨rfl, rfl⟩))
        exact ⟨⟨k + 1, _, rfl, rfl, by rfl, by omega, HN⟩, by simp [intOf]; omega⟩
    · obtain rfl : k = 16 := by omega
      have hfin : a = ((hexV bs : Nat) : Int) := by
        rw [hha.out, List.take_of_length_le (by omega)]
      have HF := hid hfin
      clear hfin hha hlt
      go_wp2
      go_ret2
      exact ⟨by rw [HF.out]; rfl, HBEL.out⟩
theorem parse16 (t : ByteArray) (hsz : t.size = 16) (hh : ∀ c ∈ t.data.toList, isHex c = true) (w : World) :
    Calls Tryz.prog 207 #[.string t, .int .i64 16, .int .i64 64] w fun e w' => e = .returned (.tuple #[.int .u64 (hexV t.data.toList), .nilIface]) ∧ Below w.heap.size w w' := by
  have HH := hid hh
  have HS := hid hsz
  clear hh hsz
  go_enter Tryz.func207, Tryz.ntmps207
  go_wp2_with fail
  refine (iparse16 t HS.out HH.out _).mono ?_
  rintro e wq ⟨rfl, hb⟩
  go_wp2_with fail
  go_ret2
  exact ⟨rfl, hb⟩
/-- The row of sixteens. -/
def hexRow : ByteArray := ⟨#[48, 49, 50, 51, 52, 53, 54, 55, 56, 57, 97, 98, 99, 100, 101, 102]⟩
theorem inRow_hex : inRow hexRow = isHex := by
  have H : ∀ n : Fin 256, inRow hexRow (UInt8.ofNat n.1) = isHex (UInt8.ofNat n.1) := by decide +kernel
  funext c
  have := H ⟨c.toNat, UInt8.toNat_lt c⟩
  simpa using this
theorem extract_run (s : ByteArray) (p : UInt8 → Bool) (most i : Nat) : (s.extract i (i + (runS s.data.toList p most i).length)).data.toList = runS s.data.toList p most i := by
  rw [Lib.extract_data]
  rw [show i + (runS s.data.toList p most i).length - i = (runS s.data.toList p most i).length by omega]
  have h := run_take s.data.toList p most i
  rw [List.take_add] at h
  exact List.append_cancel_left h
set_option maxRecDepth 100000 in
set_option maxHeartbeats 2000000 in
theorem sixteen_any (rb : Nat) (s : ByteArray) (i : Nat) (a : Int) (w : World) (h : Rd w rb s i a) (hi : i ≤ s.size) (hs : s.size ≤ 70000) :
    Calls Tryz.prog 189 #[.pointer (some ⟨rb, 0, none⟩)] w fun e w' => e = .returned (.int .u64 (sixteenS s.data.toList (i, a)).1) ∧
      Rd w' rb s (sixteenS s.data.toList (i, a)).2.1 (sixteenS s.data.toList (i, a)).2.2 ∧ Keeps w.heap.size [rb] w w' := by
  have c1 := cell_of_block h 1
  simp at c1
  have H := hid h
  clear h
  by_cases ha : a < 0
  · have hd : decide (a < 0) = true := by simpa using ha
    have hrow := inRow_hex
    have hrun := run_any rb s hexRow i a 16 w H.out hi hs (by omega)
    rw [hrow] at hrun
    have HRUN := hid hrun
    clear hrun hrow
    unfold sixteenS
    rw [if_pos (show (i, a).2 < 0 from ha)]
    show Calls Tryz.prog 189 #[.pointer (some ⟨rb, 0, none⟩)] w fun e w' => _
    simp only []
    have hex := extract_run s isHex 16 i
    have hal := run_all s.data.toList isHex 16 i
    generalize hd2 : runS s.data.toList isHex 16 i = d at HRUN hex hal
    generalize s.extract i (i + d.length) = t at HRUN hex
    have htl : t.size = d.length := by rw [← hex]; simp
    clear hd2
    by_cases h16 : d.length = 16
    · rw [if_pos h16]
      have hts : t.size = 16 := by omega
      have hts' : ((t.size : Int) != 16) = false := by rw [hts]; rfl
      have HTS := hid hts
      have HEX := hid hex
      have H16 := hid h16
      have HAL := hid hal
      clear hts hex h16 htl hal
      go_enter Tryz.func189, Tryz.ntmps189
      go_wp2_with (go_at_call 188; ((with_reducible refine (ok_any rb s i a _ H.out).mono ?_); rintro e w' ⟨rfl, rfl⟩))
      refine HRUN.out.mono ?_
      rintro e wq ⟨rfl, hR, hK⟩
      have HRR := hid hR
      have HKK := hid hK
      clear hR hK
      go_wp2_with fail
      refine (parse16 t HTS.out (by rw [HEX.out]; exact HAL.out) _).mono ?_
      rintro e wq2 ⟨rfl, hb⟩
      have hsz := HKK.out.size
      have hlt := lt_of_block HRR.out
      have hlt0 := lt_of_block H.out
      have R2 := HRR.out.keep (Keeps.of_below (S := []) hb) hlt (by simp)
      have K2 := HKK.out.trans ((Keeps.of_below (S := [rb]) hb).mono hsz (fun _ _ h => h))
      have HR2 := hid R2
      have HK2 := hid K2
      clear R2 K2 hb
      go_wp2_with fail
      go_ret
      refine ⟨?_, ?_, HK2.out⟩
      · rw [← HEX.out]; rfl
      · have := HR2.out
        rw [H16.out] at this
        exact this
    · rw [if_neg h16]
      have hts' : ((t.size : Int) != 16) = true := by simp; omega
      have HEX := hid hex
      clear hex h16 htl
      go_enter Tryz.func189, Tryz.ntmps189
      go_wp2_with (go_at_call 188; ((with_reducible refine (ok_any rb s i a _ H.out).mono ?_); rintro e w' ⟨rfl, rfl⟩))
      refine HRUN.out.mono ?_
      rintro e wq ⟨rfl, hR, hK⟩
      have HRR := hid hR
      have HKK := hid hK
      clear hR hK
      go_wp2_with fail
      refine (wrong_any rb s (i + d.length) a i _ HRR.out).mono ?_
      rintro e wq2 ⟨rfl, hR, hK⟩
      rw [if_pos ha] at hR
      have hsz := HKK.out.size
      have HR2 := hid hR
      have HK2 := hid (HKK.out.trans (hK.mono hsz (fun _ _ h => h)))
      clear hR hK
      go_wp2_with fail
      go_ret
      exact ⟨rfl, HR2.out, HK2.out⟩
  · have hd : decide (a < 0) = false := by simpa using ha
    unfold sixteenS
    rw [if_neg (show ¬ (i, a).2 < 0 from ha)]
    go_enter Tryz.func189, Tryz.ntmps189
    go_wp2_with (go_at_call 188; ((with_reducible refine (ok_any rb s i a _ H.out).mono ?_); rintro e w' ⟨rfl, rfl⟩))
    go_ret
    exact ⟨rfl, H.out, Keeps.refl _ _ _⟩
end
section
open Go.RowKit


section
variable (P : Program) (w : World) (a : Addr) (m : Mode)
end
theorem f64bits_run (a : Nat) (w : World) : (callFunc 146 #[.float .f64 a]).run Tryz.prog w = .ok (.value (.int .u64 a)) w := by kernel_rfl
theorem f64from_run (a : Int) (w : World) : (callFunc 164 #[.int .u64 a]).run Tryz.prog w = .ok (.value (.float .f64 a.toNat)) w := by kernel_rfl
theorem bits_any (n : Nat) (w : World) : Calls Tryz.prog 98 #[.float .f64 n] w fun e w' => e = .returned (.int .u64 (bitsS n)) ∧ w = w' := by
  have h1 := f64bits_run
  cases h : FloatKind.f64.format.order n n == some .eq
  · have eb : bitsS n = 9221120237041090560 := by unfold bitsS isNan; rw [h]; rfl
    have h' : (FloatKind.f64.format.order n n != some .eq) = true := by simp [bne, h]
    rw [eb]
    go_enter Tryz.func98, Tryz.ntmps98
    go_wp2
    go_ret
    exact ⟨rfl, rfl⟩
  · have eb : bitsS n = n := by unfold bitsS isNan; rw [h]; rfl
    have h' : (FloatKind.f64.format.order n n != some .eq) = false := by simp [bne, h]
    rw [eb]
    go_enter Tryz.func98, Tryz.ntmps98
    go_wp2
    go_ret
    exact ⟨rfl, rfl⟩
theorem from_any (n : Nat) (w : World) : Calls Tryz.prog 208 #[.int .u64 n] w fun e w' => e = .returned (.float .f64 n) ∧ w = w' := by
  have h1 := f64from_run
  go_enter Tryz.func208, Tryz.ntmps208
  go_wp2
  go_ret
  exact ⟨rfl, rfl⟩
theorem set_same {w w1 : World} {g : Nat} (h : w1.heap[g]? = w.heap[g]?) (o : Nat) (v : Value) : (w1.setCell ⟨g, o, none⟩ v).heap[g]? = (w.setCell ⟨g, o, none⟩ v).heap[g]? := by
  simp [World.setCell, Array.getElem?_modify, h]
/-- What reading one float comes to: the target's cell alone has turned, and the reader. -/
def FloatPost (rb : Nat) (s : ByteArray) (st : St) (tb tq : Nat) (w : World) (e : Ending) (w' : World) : Prop :=
  e = .returned (.tuple #[]) ∧ Rd w' rb s (floatS s.data.toList st).2.1 (floatS s.data.toList st).2.2 ∧ w'.heap[tb]? = (w.setCell ⟨tb, tq, none⟩ (.float .f64 (floatS s.data.toList st).1)).heap[tb]? ∧ Keeps w.heap.size [rb, tb] w w'
set_option maxRecDepth 100000 in
set_option maxHeartbeats 4000000 in
theorem floats_one (rb : Nat) (s : ByteArray) (i : Nat) (a : Int) (g tb tq c : Nat) (old : Value) (w : World) (h : Rd w rb s i a) (hi : i ≤ s.size) (hs : s.size ≤ 70000) (hg : g ≠ rb) (htr : tb ≠ rb) (hgt : g ≠ tb)
    (hcg : w.cell? ⟨g, 0, none⟩ = some (.pointer (some ⟨tb, tq, none⟩))) (hct : w.cell? ⟨tb, tq, none⟩ = some old) (hft : w.frozen? ⟨tb, tq, none⟩ = false) :
    Calls Tryz.prog 192 #[.pointer (some ⟨rb, 0, none⟩), .slice (some ⟨g, 0, none⟩) 1 c] w (FloatPost rb s (i, a) tb tq w) := by
  have c1 := cell_of_block h 1
  simp at c1
  have lrb := lt_of_block h
  have lg := World.block_lt_of_cell? _ _ hcg
  have ltb := World.block_lt_of_cell? _ _ hct
  have H := hid h
  clear h
  have hsx := sixteen_any rb s i a w H.out hi hs
  generalize hsv : sixteenS s.data.toList (i, a) = sv at hsx
  obtain ⟨n, i', a'⟩ := sv
  have HSV := hid hsv
  have HSX := hid hsx
  clear hsv hsx
  go_enter Tryz.func192, Tryz.ntmps192
  go_wp2_with fail
  go_loopw [10] (fun t wr => (t = .int .i64 0 ∧ w = wr) ∨ (t = .int .i64 1 ∧ FloatPost rb s (i, a) tb tq w (.returned (.tuple #[])) wr)) (fun t _ => 1 - (intOf t).toNat)
  case atStart => exact .inl ⟨rfl, rfl⟩
  case round =>
    rcases hrel with ⟨rfl, rfl⟩ | ⟨rfl, hpost⟩
    · go_wp2_with fail
      refine HSX.out.mono ?_
      rintro e wq ⟨rfl, hR, hK⟩
      have kt : wq.cell? ⟨tb, tq, none⟩ = some old := (hK.cell (q := ⟨tb, tq, none⟩) ltb (by simpa using htr)).trans hct
      have bt := hK.block tb ltb (by simpa using htr)
      have ft : wq.frozen? ⟨tb, tq, none⟩ = false := by
        have : wq.frozen? ⟨tb, tq, none⟩ = w.frozen? ⟨tb, tq, none⟩ := by simp only [World.frozen?, bt]
        rw [this]; exact hft
      have HRR := hid hR
      have HKK := hid hK
      have BT := hid bt
      clear hR hK bt
      have hlt : rb < wq.heap.size := lt_of_block HRR.out
      have hsz := HKK.out.size
      haveI : Has wq tb := ⟨by omega⟩
      by_cases hb : bitsS n = n
      · have hb' : ((bitsS n : Int) != (n : Int)) = false := by rw [hb]; simp
        have HB := hid hb
        clear hb
        go_wp2_with (first | (go_at_call 208; ((with_reducible refine (from_any n _).mono ?_); rintro e w' ⟨rfl, rfl⟩)) | (go_at_call 98; ((with_reducible refine (bits_any n _).mono ?_); rintro e w' ⟨rfl, rfl⟩)))
        go_roundw
        case rel =>
          have ef : floatS s.data.toList (i, a) = (n, i', a') := by unfold floatS; simp only [HSV.out]; rw [if_pos HB.out]
          refine .inr ⟨by rfl, rfl, ?_, ?_, ?_⟩
          · rw [ef]; exact (block_ne _ _ _ _ _ (Ne.symm htr)).trans HRR.out
          · rw [ef]; exact set_same BT.out _ _
          · exact (HKK.out.mono (Nat.le_refl _) (fun k _ hk => by simp at hk ⊢; exact Or.inl hk)).set (Or.inl (by simp)) _ _
        case measure => simp [intOf]
      · have hb' : ((bitsS n : Int) != (n : Int)) = true := by simp; omega
        have HB := hid hb
        clear hb
        go_wp2_with (first | (go_at_call 208; ((with_reducible refine (from_any n _).mono ?_); rintro e w' ⟨rfl, rfl⟩)) | (go_at_call 98; ((with_reducible refine (bits_any n _).mono ?_); rintro e w' ⟨rfl, rfl⟩)))
        refine (wrong_any rb s i' a' i _ ((block_ne _ _ _ _ _ (Ne.symm htr)).trans HRR.out)).mono ?_
        rintro e wq2 ⟨rfl, hR2, hK2⟩
        have HR2 := hid hR2
        have hK2' := hK2.mono (B' := w.heap.size) (by rw [World.size_setCell]; exact hsz) (fun k _ h => h)
        have hbt := hK2.block tb (by rw [World.size_setCell]; omega) (by simpa using htr)
        have HK2 := hid hK2'
        have HBT := hid hbt
        clear hR2 hK2 hK2' hbt
        go_wp2_with fail
        go_roundw
        case rel =>
          have ef : floatS s.data.toList (i, a) = (n, wrongS i (i', a')) := by unfold floatS; simp only [HSV.out]; rw [if_neg HB.out]
          refine .inr ⟨by rfl, rfl, ?_, ?_, ?_⟩
          · rw [ef]
            unfold wrongS
            by_cases ha : a' < 0
            · have := HR2.out; rw [if_pos ha] at this; simpa [ha] using this
            · have := HR2.out; rw [if_neg ha] at this; simpa [ha] using this
          · rw [ef]; exact HBT.out.trans (set_same BT.out _ _)
          · exact ((HKK.out.mono (Nat.le_refl _) (fun k _ hk => by simp at hk ⊢; exact Or.inl hk)).set (Or.inl (by simp)) _ _).trans (HK2.out.mono (Nat.le_refl _) (fun k _ hk => by simp at hk ⊢; exact Or.inl hk))
        case measure => simp [intOf]
    · have HP := hid hpost
      clear hpost
      go_wp2_with fail
      go_end0
      exact HP.out
end
end Go.Proofs.YtmjpfoninpbgiaaGreatDoor
