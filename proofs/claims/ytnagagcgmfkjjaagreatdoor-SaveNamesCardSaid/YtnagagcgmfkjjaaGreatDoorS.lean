/- The readers and the writers of saves as plain functions; what is read is what is written. -/
import Derived.Test.YtnagagcgmfkjjaaGreatDoorA
set_option linter.unusedVariables false
set_option linter.unusedSimpArgs false
namespace Go.Proofs.YtnagagcgmfkjjaaGreatDoor
open Go.RowKit
abbrev By := List UInt8
/-- Where a reader stands: how far, and the place of the first wrong piece, or -1. -/
abbrev St := Nat × Int
def wrongS (p : Nat) (st : St) : St := if st.2 < 0 then (st.1, (p : Int)) else st
def mustS (s : By) : List By → St → St
  | [], st => st
  | w :: ws, st => if st.2 < 0 then (if w.isPrefixOf (s.drop st.1) then mustS s ws (st.1 + w.length, st.2) else (st.1, (st.1 : Int))) else st
def isDig (c : UInt8) : Bool := 48 ≤ c && c ≤ 57
def isHex (c : UInt8) : Bool := (48 ≤ c && c ≤ 57) || (97 ≤ c && c ≤ 102)
/-- The longest run of bytes of a kind, at most so many. -/
def runS (s : By) (p : UInt8 → Bool) (most i : Nat) : By := ((s.drop i).take most).takeWhile p
def decV (d : By) : Nat := d.foldl (fun n c => 10 * n + (c.toNat - 48)) 0
def hexD (c : UInt8) : Nat := if c ≤ 57 then c.toNat - 48 else c.toNat - 87
def hexV (d : By) : Nat := d.foldl (fun n c => 16 * n + hexD c) 0
def badWhole (d : By) (bits : Nat) : Bool := d.isEmpty || decide (2 ^ bits ≤ decV d) || (decide (1 < d.length) && d.headD 0 == 48)
def wholeS (s : By) (bits : Nat) (st : St) : Nat × St :=
  if st.2 < 0 then
    let d := runS s isDig s.length st.1
    if badWhole d bits then (0, (st.1 + d.length, (st.1 : Int))) else (decV d, (st.1 + d.length, st.2))
  else (0, st)
def sixteenS (s : By) (st : St) : Nat × St :=
  if st.2 < 0 then
    let d := runS s isHex 16 st.1
    if d.length = 16 then (hexV d, (st.1 + 16, st.2)) else (0, (st.1 + d.length, (st.1 : Int)))
  else (0, st)
/-- A float's bits, of no number those of one. -/
def isNan (n : Nat) : Bool := !(FloatKind.f64.format.order n n == some .eq)
def bitsS (n : Nat) : Nat := if isNan n then 9221120237041090560 else n
def floatS (s : By) (st : St) : Nat × St :=
  let r := sixteenS s st
  if bitsS r.1 = r.1 then r else (r.1, wrongS st.1 r.2)
/-- Floats, a blank between each two: the first one without. -/
def floatsS (s : By) : Nat → Bool → St → List Nat × St
  | 0, _, st => ([], st)
  | k + 1, first, st =>
    let st1 := if first then st else mustS s [[32]] st
    let r := floatS s st1
    let q := floatsS s k false r.2
    (r.1 :: q.1, q.2)
/-! What is written. -/
def decW (n : Nat) : By := if n < 10 then [UInt8.ofNat (48 + n)] else decW (n / 10) ++ [UInt8.ofNat (48 + n % 10)]
def hexC (k : Nat) : UInt8 := if k < 10 then UInt8.ofNat (48 + k) else UInt8.ofNat (87 + k)
def hexW : Nat → Nat → By
  | 0, _ => []
  | k + 1, n => hexW k (n / 16) ++ [hexC (n % 16)]
def floatsW : List Nat → By
  | [] => []
  | [x] => hexW 16 (bitsS x)
  | x :: y :: r => hexW 16 (bitsS x) ++ [32] ++ floatsW (y :: r)
/-! The lemmas. -/
theorem hexC_hexD (c : UInt8) (h : isHex c = true) : hexC (hexD c) = c ∧ hexD c < 16 := by
  have H : ∀ n : Fin 256, isHex (UInt8.ofNat n.1) = true → hexC (hexD (UInt8.ofNat n.1)) = UInt8.ofNat n.1 ∧ hexD (UInt8.ofNat n.1) < 16 := by decide +kernel
  have := H ⟨c.toNat, UInt8.toNat_lt c⟩
  simp only [UInt8.ofNat_toNat] at this
  exact this h
theorem hexV_snoc (d : By) (c : UInt8) : hexV (d ++ [c]) = 16 * hexV d + hexD c := by simp [hexV, List.foldl_append]
theorem decV_snoc (d : By) (c : UInt8) : decV (d ++ [c]) = 10 * decV d + (c.toNat - 48) := by simp [decV, List.foldl_append]
theorem hexW_hexV : ∀ (n : Nat) (d : By), d.length = n → (∀ c ∈ d, isHex c = true) → hexW n (hexV d) = d := by
  intro n
  induction n with
  | zero => intro d hd _; rw [List.eq_nil_of_length_eq_zero hd]; rfl
  | succ n ih =>
    intro d hd hc
    have hne : d ≠ [] := by intro e; rw [e] at hd; cases hd
    obtain ⟨d', c, rfl⟩ : ∃ d' c, d = d' ++ [c] := ⟨d.dropLast, d.getLast hne, (List.dropLast_concat_getLast hne).symm⟩
    have h1 := hexC_hexD c (hc c (by simp))
    simp only [hexW, hexV_snoc]
    rw [show (16 * hexV d' + hexD c) / 16 = hexV d' by omega, show (16 * hexV d' + hexD c) % 16 = hexD c by omega, h1.1, ih d' (by simpa using hd) (fun x hx => hc x (by simp [hx]))]
theorem dig_ofNat (c : UInt8) (h : isDig c = true) : UInt8.ofNat (48 + (c.toNat - 48)) = c ∧ c.toNat - 48 < 10 := by
  have H : ∀ n : Fin 256, isDig (UInt8.ofNat n.1) = true → UInt8.ofNat (48 + ((UInt8.ofNat n.1).toNat - 48)) = UInt8.ofNat n.1 ∧ (UInt8.ofNat n.1).toNat - 48 < 10 := by decide +kernel
  have := H ⟨c.toNat, UInt8.toNat_lt c⟩
  simp only [UInt8.ofNat_toNat] at this
  exact this h
theorem decV_pos (d : By) (hd : ∀ c ∈ d, isDig c = true) (h0 : d.headD 0 ≠ 48) (hne : d ≠ []) : 0 < decV d := by
  induction h : d.length generalizing d with
  | zero => exact absurd (List.eq_nil_of_length_eq_zero h) hne
  | succ n ih =>
    obtain ⟨d', c, rfl⟩ : ∃ d' c, d = d' ++ [c] := ⟨d.dropLast, d.getLast hne, (List.dropLast_concat_getLast hne).symm⟩
    rw [decV_snoc]
    cases d' with
    | nil =>
      simp only [List.nil_append, List.headD_cons] at h0
      have h1 := dig_ofNat c (hd c (by simp))
      have : c.toNat - 48 ≠ 0 := by
        intro e
        rw [e] at h1
        exact h0 h1.1.symm
      omega
    | cons x y =>
      have := ih (x :: y) (fun z hz => hd z (by simp at hz ⊢; rcases hz with h | h <;> simp [h])) (by simpa using h0) (by simp) (by simpa using h)
      omega
theorem decW_decV (d : By) (hd : ∀ c ∈ d, isDig c = true) (hne : d ≠ []) (h0 : 1 < d.length → d.headD 0 ≠ 48) : decW (decV d) = d := by
  induction h : d.length generalizing d with
  | zero => exact absurd (List.eq_nil_of_length_eq_zero h) hne
  | succ n ih =>
    obtain ⟨d', c, rfl⟩ : ∃ d' c, d = d' ++ [c] := ⟨d.dropLast, d.getLast hne, (List.dropLast_concat_getLast hne).symm⟩
    have h1 := dig_ofNat c (hd c (by simp))
    rw [decV_snoc]
    cases d' with
    | nil =>
      simp only [decV, List.foldl_nil, List.nil_append]
      rw [decW, if_pos (by omega)]
      simp only [Nat.mul_zero, Nat.zero_add, h1.1]
    | cons x y =>
      have hlen : 1 < (x :: y ++ [c]).length := by simp
      have hx : (x :: y).headD 0 ≠ 48 := by simpa using h0 hlen
      have hpos := decV_pos (x :: y) (fun z hz => hd z (by simp at hz ⊢; rcases hz with h | h <;> simp [h])) hx (by simp)
      have ihh := ih (x :: y) (fun z hz => hd z (by simp at hz ⊢; rcases hz with h | h <;> simp [h])) (by simp) (fun _ => hx) (by simpa using h)
      rw [decW, if_neg (by omega), show (10 * decV (x :: y) + (c.toNat - 48)) / 10 = decV (x :: y) by omega, show (10 * decV (x :: y) + (c.toNat - 48)) % 10 = c.toNat - 48 by omega, ihh, h1.1]
theorem must_not (s : By) (ws : List By) (st : St) (h : ¬ st.2 < 0) : mustS s ws st = st := by
  cases ws with
  | nil => rfl
  | cons w ws => rw [mustS, if_neg h]
theorem must_ok (s : By) : ∀ (ws : List By) (st : St), (mustS s ws st).2 < 0 → st.2 < 0 ∧ s.take (mustS s ws st).1 = s.take st.1 ++ ws.flatten ∧ (mustS s ws st).1 = st.1 + ws.flatten.length ∧ (st.1 ≤ s.length → (mustS s ws st).1 ≤ s.length) := by
  intro ws
  induction ws with
  | nil => intro st h; exact ⟨h, by simp [mustS], rfl, fun h => h⟩
  | cons w ws ih =>
    intro st h
    by_cases h0 : st.2 < 0
    · rw [mustS, if_pos h0] at h ⊢
      by_cases hw : w.isPrefixOf (s.drop st.1) = true
      · rw [if_pos hw] at h ⊢
        obtain ⟨h1, h2, h3, h4⟩ := ih _ h
        obtain ⟨t, ht⟩ := List.isPrefixOf_iff_prefix.1 hw
        refine ⟨h0, ?_, ?_, fun hl => h4 ?_⟩
        · rw [h2, List.take_add, ← ht]
          simp
        · rw [h3]; simp; omega
        · have : (s.drop st.1).length = w.length + t.length := by rw [← ht]; simp
          simp at this
          show st.1 + w.length ≤ s.length
          omega
      · rw [if_neg hw] at h
        simp at h
        omega
    · rw [must_not s _ _ h0] at h
      exact absurd h h0
theorem run_take (s : By) (p : UInt8 → Bool) (most i : Nat) : s.take (i + (runS s p most i).length) = s.take i ++ runS s p most i := by
  rw [List.take_add]
  congr 1
  unfold runS
  have h1 : ((s.drop i).take most).takeWhile p = ((s.drop i).take most).take (((s.drop i).take most).takeWhile p).length := by
    exact (List.prefix_iff_eq_take.1 (List.takeWhile_prefix p))
  have hle : (((s.drop i).take most).takeWhile p).length ≤ most := Nat.le_trans (List.takeWhile_prefix p).length_le (by simp; omega)
  rw [List.take_take, Nat.min_eq_left hle] at h1
  exact h1.symm
theorem run_all (s : By) (p : UInt8 → Bool) (most i : Nat) : ∀ c ∈ runS s p most i, p c = true := by
  intro c hc
  unfold runS at hc
  have h := List.all_takeWhile (p := p) (l := (s.drop i).take most)
  rw [List.all_eq_true] at h
  exact h c hc
theorem run_le (s : By) (p : UInt8 → Bool) (most i : Nat) (h : i ≤ s.length) : i + (runS s p most i).length ≤ s.length := by
  have := (List.takeWhile_prefix p (l := (s.drop i).take most)).length_le
  unfold runS
  simp at this
  omega
theorem whole_ok (s : By) (bits : Nat) (st : St) (h : (wholeS s bits st).2.2 < 0) : st.2 < 0 ∧ s.take (wholeS s bits st).2.1 = s.take st.1 ++ decW (wholeS s bits st).1 ∧ (wholeS s bits st).1 < 2 ^ bits ∧ st.1 < (wholeS s bits st).2.1 ∧ (st.1 ≤ s.length → (wholeS s bits st).2.1 ≤ s.length) := by
  unfold wholeS at h ⊢
  by_cases h0 : st.2 < 0
  · simp only [if_pos h0] at h ⊢
    by_cases hb : badWhole (runS s isDig s.length st.1) bits = true
    · rw [if_pos hb] at h; simp at h; omega
    · simp only [if_neg hb]
      unfold badWhole at hb
      simp only [Bool.or_eq_true, not_or, Bool.and_eq_true, decide_eq_true_eq, beq_iff_eq, not_and, List.isEmpty_iff] at hb
      obtain ⟨⟨h1, h2⟩, h3⟩ := hb
      refine ⟨h0, ?_, by omega, ?_, fun hl => run_le s _ _ _ hl⟩
      · rw [run_take, decW_decV _ (run_all s _ _ _) h1 h3]
      · have := List.length_pos_iff.2 h1
        show st.1 < st.1 + _
        omega
  · rw [if_neg h0] at h
    exact absurd h h0
theorem sixteen_ok (s : By) (st : St) (h : (sixteenS s st).2.2 < 0) : st.2 < 0 ∧ s.take (sixteenS s st).2.1 = s.take st.1 ++ hexW 16 (sixteenS s st).1 ∧ (sixteenS s st).2.1 = st.1 + 16 ∧ (st.1 ≤ s.length → (sixteenS s st).2.1 ≤ s.length) := by
  unfold sixteenS at h ⊢
  by_cases h0 : st.2 < 0
  · simp only [if_pos h0] at h ⊢
    by_cases hb : (runS s isHex 16 st.1).length = 16
    · simp only [if_pos hb]
      refine ⟨h0, ?_, trivial, fun hl => ?_⟩
      · have h1 := run_take s isHex 16 st.1
        rw [hb] at h1
        rw [h1, hexW_hexV 16 _ hb (run_all s _ _ _)]
      · have := run_le s isHex 16 st.1 hl
        rw [hb] at this
        exact this
    · rw [if_neg hb] at h; simp at h; omega
  · rw [if_neg h0] at h
    exact absurd h h0
theorem float_ok (s : By) (st : St) (h : (floatS s st).2.2 < 0) : st.2 < 0 ∧ s.take (floatS s st).2.1 = s.take st.1 ++ hexW 16 (bitsS (floatS s st).1) ∧ (floatS s st).2.1 = st.1 + 16 ∧ (st.1 ≤ s.length → (floatS s st).2.1 ≤ s.length) := by
  unfold floatS at h ⊢
  by_cases hb : bitsS (sixteenS s st).1 = (sixteenS s st).1
  · simp only [if_pos hb] at h ⊢
    rw [hb]
    exact sixteen_ok s st h
  · simp only [if_neg hb] at h
    unfold wrongS at h
    split at h
    · simp at h; omega
    · contradiction
/-- A blank ahead, or none. -/
def gapW : Bool → By
  | true => []
  | false => [32]
def floatsG : Bool → List Nat → By
  | _, [] => []
  | b, x :: r => gapW b ++ hexW 16 (bitsS x) ++ floatsG false r
theorem floatsG_W (l : List Nat) : floatsG true l = floatsW l := by
  match l with
  | [] => rfl
  | [x] => simp [floatsG, floatsW, gapW]
  | x :: y :: r =>
    have := floatsG_W (y :: r)
    simp only [floatsG, gapW, List.nil_append] at this
    simp [floatsG, floatsW, gapW, ← this]
theorem floats_ok (s : By) : ∀ (k : Nat) (b : Bool) (st : St), (floatsS s k b st).2.2 < 0 → st.2 < 0 ∧ s.take (floatsS s k b st).2.1 = s.take st.1 ++ floatsG b (floatsS s k b st).1 ∧ st.1 ≤ (floatsS s k b st).2.1 ∧ (st.1 ≤ s.length → (floatsS s k b st).2.1 ≤ s.length) := by
  intro k
  induction k with
  | zero => intro b st h; exact ⟨h, by simp [floatsS, floatsG], Nat.le_refl _, fun h => h⟩
  | succ k ih =>
    intro b st h
    simp only [floatsS] at h ⊢
    obtain ⟨h1, h2, h3, h4⟩ := ih _ _ h
    obtain ⟨g1, g2, g3, g4⟩ := float_ok _ _ h1
    cases b with
    | true =>
      simp only [if_true] at h1 h2 h3 h4 g1 g2 g3 g4 ⊢
      refine ⟨g1, ?_, by omega, fun hl => h4 (g4 hl)⟩
      rw [h2, g2]
      simp [floatsG, gapW]
    | false =>
      simp only [if_false, Bool.false_eq_true] at h1 h2 h3 h4 g1 g2 g3 g4 ⊢
      obtain ⟨m1, m2, m3, m4⟩ := must_ok _ _ _ g1
      refine ⟨m1, ?_, by omega, fun hl => h4 (g4 (m4 hl))⟩
      rw [h2, g2, m2]
      simp [floatsG, gapW]
/-! Lines, and a save. -/
def linesS {α : Type} (s one : By) (line : St → α × St) : Nat → St → List α × St
  | 0, st => ([], st)
  | k + 1, st => if st.2 < 0 then
      let r := line (mustS s [one, [32]] st)
      let q := linesS s one line k (mustS s [[10]] r.2)
      (r.1 :: q.1, q.2)
    else ([], st)
/-- How a line's text is read back. -/
def LineOk {α : Type} (s : By) (line : St → α × St) (w : α → By) : Prop :=
  ∀ st, (line st).2.2 < 0 → st.2 < 0 ∧ s.take (line st).2.1 = s.take st.1 ++ w (line st).1 ∧ st.1 ≤ (line st).2.1 ∧ (st.1 ≤ s.length → (line st).2.1 ≤ s.length)
theorem lines_ok {α : Type} (s one : By) (line : St → α × St) (w : α → By) (hl : LineOk s line w) : ∀ (k : Nat) (st : St), (linesS s one line k st).2.2 < 0 → st.2 < 0 ∧
    s.take (linesS s one line k st).2.1 = s.take st.1 ++ ((linesS s one line k st).1.flatMap fun x => one ++ [32] ++ w x ++ [10]) ∧ st.1 + (linesS s one line k st).1.length ≤ (linesS s one line k st).2.1 ∧
    (linesS s one line k st).1.length = k ∧ (st.1 ≤ s.length → (linesS s one line k st).2.1 ≤ s.length) := by
  intro k
  induction k with
  | zero => intro st h; exact ⟨h, by simp [linesS], Nat.le_refl _, rfl, fun h => h⟩
  | succ k ih =>
    intro st h
    by_cases h0 : st.2 < 0
    · simp only [linesS, if_pos h0] at h ⊢
      obtain ⟨h1, h2, h3, h4, h5⟩ := ih _ h
      obtain ⟨m1, m2, m3, m4⟩ := must_ok _ _ _ h1
      obtain ⟨l1, l2, l3, l4⟩ := hl _ m1
      obtain ⟨n1, n2, n3, n4⟩ := must_ok _ _ _ l1
      refine ⟨h0, ?_, ?_, by simp [h4], fun hl => h5 (m4 (l4 (n4 hl)))⟩
      · rw [h2, m2, l2, n2]
        simp
      · simp at m3 n3 ⊢
        omega
    · simp only [linesS, if_neg h0] at h
      exact absurd h h0
/-- FNV-1a of 64 bits. -/
def sumS (l : By) : Nat := l.foldl (fun n c => ((n ^^^ c.toNat) * 1099511628211) % 18446744073709551616) 14695981039346656037
def headL (kind word : By) : List By := [[101, 100, 100, 121], [32], kind, [32], [49], [10], word, [32]]
/-- What stands behind the lines: the sum is told, and where. -/
structure Ends where
  fin : Nat
  told : Nat
  at' : Nat
  st : St
def endsS (s : By) (st : St) : Ends :=
  let st4 := mustS s [[115, 117, 109], [32]] st
  let r := sixteenS s st4
  let st6 := mustS s [[10]] r.2
  { fin := st.1, told := r.1, at' := st4.1, st := if st6.2 < 0 ∧ st6.1 < s.length then (st6.1, (st6.1 : Int)) else st6 }
/-- A save: its lines' things, and the fault: its code and its place; code 0: none. -/
def readS {α : Type} (s kind word one : By) (line : St → α × St) : List α × Int × Int :=
  if 65536 < s.length then ([], 3, 0)
  else
    let r := wholeS s 63 (mustS s (headL kind word) (0, -1))
    let q := linesS s one line r.1 (mustS s [[10]] r.2)
    let e := endsS s q.2
    if e.st.2 < 0 then (if e.told = sumS (s.take e.fin) then (q.1, 0, 0) else (q.1, 291, (e.at' : Int))) else (q.1, 290, e.st.2)
def savedW (kind word : By) (n : Nat) (body : By) : By :=
  let t := [101, 100, 100, 121, 32] ++ kind ++ [32, 49, 10] ++ word ++ [32] ++ decW n ++ [10] ++ body
  t ++ [115, 117, 109, 32] ++ hexW 16 (sumS t) ++ [10]
theorem read_ok {α : Type} (s kind word one : By) (line : St → α × St) (w : α → By) (hl : LineOk s line w) (h : (readS s kind word one line).2.1 = 0) :
    s.length ≤ 65536 ∧ (readS s kind word one line).1.length ≤ s.length ∧ s = savedW kind word (readS s kind word one line).1.length ((readS s kind word one line).1.flatMap fun x => one ++ [32] ++ w x ++ [10]) := by
  unfold readS at h ⊢
  by_cases h0 : 65536 < s.length
  · rw [if_pos h0] at h; cases h
  · simp only [if_neg h0] at h ⊢
    generalize hr : wholeS s 63 (mustS s (headL kind word) (0, -1)) = r at h ⊢
    generalize hq : linesS s one line r.1 (mustS s [[10]] r.2) = q at h ⊢
    by_cases h1 : (endsS s q.2).st.2 < 0
    · simp only [if_pos h1] at h ⊢
      by_cases h2 : (endsS s q.2).told = sumS (s.take (endsS s q.2).fin)
      · simp only [if_pos h2] at h ⊢
        clear h
        unfold endsS at h1 h2
        simp only [] at h1 h2
        split at h1
        · simp at h1; omega
        · rename_i hns
          simp only [h1, true_and, Nat.not_lt] at hns
          obtain ⟨a1, a2, a3, a4⟩ := must_ok _ _ _ h1
          obtain ⟨b1, b2, b3, b4⟩ := sixteen_ok _ _ a1
          obtain ⟨c1, c2, c3, c4⟩ := must_ok _ _ _ b1
          rw [← hq] at c1
          obtain ⟨d1, d2, d3, d4, d5⟩ := lines_ok s one line w hl _ _ c1
          rw [hq] at d2 d3 d4 d5
          obtain ⟨e1, e2, e3, e4⟩ := must_ok _ _ _ d1
          rw [← hr] at e1
          obtain ⟨f1, f2, f3, f4, f5⟩ := whole_ok _ _ _ e1
          rw [hr] at f2 f3 f4 f5
          obtain ⟨g1, g2, g3, g4⟩ := must_ok _ _ _ f1
          have hend : q.2.1 ≤ s.length := d5 (e4 (f5 (g4 (by simp))))
          refine ⟨by omega, by omega, ?_⟩
          have hs : s.take (mustS s [[10]] (sixteenS s (mustS s [[115, 117, 109], [32]] q.2)).2).1 = s := List.take_of_length_le hns
          have ht : s.take q.2.1 = [101, 100, 100, 121, 32] ++ kind ++ [32, 49, 10] ++ word ++ [32] ++ decW q.1.length ++ [10] ++ (q.1.flatMap fun x => one ++ [32] ++ w x ++ [10]) := by
            rw [d2, e2, f2, g2, d4]
            simp [headL]
          rw [← hs, a2, b2, c2, h2, ht]
          unfold savedW
          simp
      · simp only [if_neg h2] at h; cases h
    · simp only [if_neg h1] at h; cases h
/-! The four readers. -/
def numS (s : By) (st : St) : (Nat × Nat) × St :=
  let r := floatS s st
  let q := floatS s (mustS s [[32]] r.2)
  ((r.1, q.1), q.2)
theorem num_ok (s : By) (st : St) (h : (numS s st).2.2 < 0) : st.2 < 0 ∧ s.take (numS s st).2.1 = s.take st.1 ++ floatsW [(numS s st).1.1, (numS s st).1.2] ∧ st.1 ≤ (numS s st).2.1 ∧ (st.1 ≤ s.length → (numS s st).2.1 ≤ s.length) := by
  unfold numS at h ⊢
  obtain ⟨a1, a2, a3, a4⟩ := float_ok _ _ h
  obtain ⟨b1, b2, b3, b4⟩ := must_ok _ _ _ a1
  obtain ⟨c1, c2, c3, c4⟩ := float_ok _ _ b1
  refine ⟨c1, ?_, ?_, fun hl => a4 (b4 (c4 hl))⟩
  · rw [a2, b2, c2]; simp [floatsW]
  · simp at b3 ⊢; omega
/-- A kind, a place, a strength, a power: their bits. -/
abbrev El := Nat × (Nat × Nat) × (Nat × Nat) × Nat
abbrev Tr := (Nat × Nat) × Nat × Nat
abbrev Wh := (Nat × Nat) × Nat
def elemS (s : By) (st : St) : El × St :=
  let a := wholeS s 8 st
  let b := numS s (mustS s [[32]] a.2)
  let c := numS s (mustS s [[32]] b.2)
  let d := floatS s (mustS s [[32]] c.2)
  ((a.1, b.1, c.1, d.1), d.2)
def tracS (s : By) (st : St) : Tr × St :=
  let b := numS s st
  let c := floatS s (mustS s [[32]] b.2)
  let d := wholeS s 8 (mustS s [[32]] c.2)
  ((b.1, c.1, d.1), d.2)
def whirS (s : By) (st : St) : Wh × St :=
  let b := numS s st
  let c := floatS s (mustS s [[32]] b.2)
  ((b.1, c.1), c.2)
def elW (x : El) : By := decW x.1 ++ [32] ++ floatsW [x.2.1.1, x.2.1.2, x.2.2.1.1, x.2.2.1.2, x.2.2.2]
def trW (x : Tr) : By := floatsW [x.1.1, x.1.2, x.2.1] ++ [32] ++ decW x.2.2
def whW (x : Wh) : By := floatsW [x.1.1, x.1.2, x.2]
theorem elem_ok (s : By) : LineOk s (elemS s) elW := by
  intro st h
  simp only [elemS] at h ⊢
  generalize ha : wholeS s 8 st = a at h ⊢
  generalize hb : numS s (mustS s [[32]] a.2) = b at h ⊢
  generalize hc : numS s (mustS s [[32]] b.2) = c at h ⊢
  generalize hd : floatS s (mustS s [[32]] c.2) = d at h ⊢
  have A := float_ok s (mustS s [[32]] c.2) (by rw [hd]; exact h)
  rw [hd] at A
  obtain ⟨a1, a2, a3, a4⟩ := A
  obtain ⟨b1, b2, b3, b4⟩ := must_ok _ _ _ a1
  have C := num_ok s (mustS s [[32]] b.2) (by rw [hc]; exact b1)
  rw [hc] at C
  obtain ⟨c1, c2, c3, c4⟩ := C
  obtain ⟨d1, d2, d3, d4⟩ := must_ok _ _ _ c1
  have E := num_ok s (mustS s [[32]] a.2) (by rw [hb]; exact d1)
  rw [hb] at E
  obtain ⟨e1, e2, e3, e4⟩ := E
  obtain ⟨f1, f2, f3, f4⟩ := must_ok _ _ _ e1
  have G := whole_ok s 8 st (by rw [ha]; exact f1)
  rw [ha] at G
  obtain ⟨g1, g2, g3, g4, g5⟩ := G
  refine ⟨g1, ?_, ?_, fun hl => a4 (b4 (c4 (d4 (e4 (f4 (g5 hl))))))⟩
  · rw [a2, b2, c2, d2, e2, f2, g2]; simp [floatsW, elW]
  · simp at b3 d3 f3 ⊢; omega
theorem trac_ok (s : By) : LineOk s (tracS s) trW := by
  intro st h
  unfold tracS at h ⊢
  obtain ⟨a1, a2, a3, a4, a5⟩ := whole_ok _ _ _ h
  obtain ⟨b1, b2, b3, b4⟩ := must_ok _ _ _ a1
  obtain ⟨c1, c2, c3, c4⟩ := float_ok _ _ b1
  obtain ⟨d1, d2, d3, d4⟩ := must_ok _ _ _ c1
  obtain ⟨e1, e2, e3, e4⟩ := num_ok _ _ d1
  refine ⟨e1, ?_, ?_, fun hl => a5 (b4 (c4 (d4 (e4 hl))))⟩
  · rw [a2, b2, c2, d2, e2]; simp [floatsW, trW]
  · simp at b3 d3 ⊢; omega
theorem whir_ok (s : By) : LineOk s (whirS s) whW := by
  intro st h
  unfold whirS at h ⊢
  obtain ⟨c1, c2, c3, c4⟩ := float_ok _ _ h
  obtain ⟨d1, d2, d3, d4⟩ := must_ok _ _ _ c1
  obtain ⟨e1, e2, e3, e4⟩ := num_ok _ _ d1
  refine ⟨e1, ?_, ?_, fun hl => c4 (d4 (e4 hl))⟩
  · rw [c2, d2, e2]; simp [floatsW, whW]
  · simp at d3 ⊢; omega
def wFlow : By := [102, 108, 111, 119]
def wElements : By := [101, 108, 101, 109, 101, 110, 116, 115]
def wElement : By := [101, 108, 101, 109, 101, 110, 116]
def wTracers : By := [116, 114, 97, 99, 101, 114, 115]
def wTracer : By := [116, 114, 97, 99, 101, 114]
def wWhirls : By := [119, 104, 105, 114, 108, 115]
def wWhirl : By := [119, 104, 105, 114, 108]
def readF (s : By) : List El × Int × Int := readS s wFlow wElements wElement (elemS s)
def readT (s : By) : List Tr × Int × Int := readS s wTracers wTracers wTracer (tracS s)
def readW (s : By) : List Wh × Int × Int := readS s wWhirls wWhirls wWhirl (whirS s)
def flowW (l : List El) : By := savedW wFlow wElements l.length (l.flatMap fun x => wElement ++ [32] ++ elW x ++ [10])
def tracersW (l : List Tr) : By := savedW wTracers wTracers l.length (l.flatMap fun x => wTracer ++ [32] ++ trW x ++ [10])
def whirlsW (l : List Wh) : By := savedW wWhirls wWhirls l.length (l.flatMap fun x => wWhirl ++ [32] ++ whW x ++ [10])
theorem readF_ok {s : By} (h : (readF s).2.1 = 0) : s.length ≤ 65536 ∧ (readF s).1.length ≤ s.length ∧ s = flowW (readF s).1 := read_ok s _ _ _ _ _ (elem_ok s) h
theorem readT_ok {s : By} (h : (readT s).2.1 = 0) : s.length ≤ 65536 ∧ (readT s).1.length ≤ s.length ∧ s = tracersW (readT s).1 := read_ok s _ _ _ _ _ (trac_ok s) h
theorem readW_ok {s : By} (h : (readW s).2.1 = 0) : s.length ≤ 65536 ∧ (readW s).1.length ≤ s.length ∧ s = whirlsW (readW s).1 := read_ok s _ _ _ _ _ (whir_ok s) h
def readN (s : By) : (Nat × Nat) × Int × Int :=
  if 65536 < s.length then ((0, 0), 3, 0)
  else
    let r := numS s (0, -1)
    if r.2.2 < 0 then (if r.2.1 < s.length then ((0, 0), 290, (r.2.1 : Int)) else (r.1, 0, 0)) else ((0, 0), 290, r.2.2)
theorem readN_ok {s : By} (h : (readN s).2.1 = 0) : s = floatsW [(readN s).1.1, (readN s).1.2] := by
  unfold readN at h ⊢
  by_cases h0 : 65536 < s.length
  · rw [if_pos h0] at h; cases h
  · simp only [if_neg h0] at h ⊢
    by_cases h1 : (numS s (0, -1)).2.2 < 0
    · simp only [if_pos h1] at h ⊢
      by_cases h2 : (numS s (0, -1)).2.1 < s.length
      · rw [if_pos h2] at h; cases h
      · simp only [if_neg h2]
        obtain ⟨-, a2, -, -⟩ := num_ok _ _ h1
        rw [List.take_of_length_le (by omega)] at a2
        simpa using a2
    · rw [if_neg h1] at h; cases h
end Go.Proofs.YtnagagcgmfkjjaaGreatDoor
