/- The document's conditions on whole numbers; a text behind one byte more. -/
import Derived.Test.YtnagagcgmfkjjaaGreatDoorBB
set_option linter.unusedSimpArgs false
set_option linter.unusedVariables false
namespace Go.Proofs.YtnagagcgmfkjjaaGreatDoor
open Go.RowKit
theorem must_cons (s : By) (w : By) (ws : List By) (st : St) : mustS s (w :: ws) st = mustS s ws (mustS s [w] st) := by
  by_cases h : st.2 < 0
  · rw [mustS, if_pos h, mustS, if_pos h]
    by_cases hp : w.isPrefixOf (s.drop st.1) = true
    · rw [if_pos hp, if_pos hp]; rfl
    · rw [if_neg hp, if_neg hp, must_not _ _ _ (by show ¬ ((st.1 : Int) < 0); omega)]
  · rw [must_not _ _ _ h, must_not _ _ _ h, must_not _ _ _ h]
theorem decV_acc (d : By) (n : Nat) : d.foldl (fun n c => 10 * n + (c.toNat - 48)) n = n * 10 ^ d.length + decV d := by
  induction d generalizing n with
  | nil => simp [decV]
  | cons c d ih =>
    have h0 : decV (c :: d) = d.foldl (fun n c => 10 * n + (c.toNat - 48)) (c.toNat - 48) := by simp [decV]
    rw [h0, List.foldl_cons, ih, ih (c.toNat - 48), List.length_cons, Nat.pow_succ, Nat.add_mul, ← Nat.add_assoc]
    congr 2
    rw [Nat.mul_comm 10 n, Nat.mul_assoc, Nat.mul_comm 10]
theorem decV_cons (c : UInt8) (d : By) : decV (c :: d) = (c.toNat - 48) * 10 ^ d.length + decV d := by
  rw [← decV_acc d]
  simp [decV]
theorem decV_top (d : By) (hd : ∀ c ∈ d, isDig c = true) : decV d < 10 ^ d.length := by
  induction d with
  | nil => decide
  | cons c d ih =>
    have h1 := (dig_ofNat c (hd c (by simp))).2
    have h2 := ih (fun x hx => hd x (by simp [hx]))
    rw [decV_cons, List.length_cons, Nat.pow_succ]
    have h3 : (c.toNat - 48) * 10 ^ d.length ≤ 9 * 10 ^ d.length := Nat.mul_le_mul_right _ (by omega)
    omega
theorem decV_low (d : By) (hd : ∀ c ∈ d, isDig c = true) (hne : d ≠ []) (h0 : d.headD 0 ≠ 48) : 10 ^ (d.length - 1) ≤ decV d := by
  cases d with
  | nil => exact absurd rfl hne
  | cons c d =>
    have h1 := dig_ofNat c (hd c (by simp))
    simp only [List.headD_cons] at h0
    have h2 : 1 ≤ c.toNat - 48 := by
      rcases Nat.eq_zero_or_pos (c.toNat - 48) with e | e
      · rw [e] at h1; exact absurd h1.1.symm h0
      · exact e
    rw [decV_cons]
    have h3 : 1 * 10 ^ d.length ≤ (c.toNat - 48) * 10 ^ d.length := Nat.mul_le_mul_right _ h2
    simp
    omega
/-- Not behind, of two rows of digits of one length. -/
theorem less_dec : ∀ (x y : By), x.length = y.length → (∀ c ∈ x, isDig c = true) → (∀ c ∈ y, isDig c = true) → (Go.Op.bytesLess x y || x == y) = decide (decV x ≤ decV y) := by
  intro x
  induction x with
  | nil =>
    intro y h _ _
    have : y = [] := List.eq_nil_of_length_eq_zero h.symm
    subst this
    decide
  | cons a x ih =>
    intro y h hx hy
    cases y with
    | nil => simp at h
    | cons b y =>
      have hl : x.length = y.length := by simpa using h
      have hh := ih y hl (fun c hc => hx c (by simp [hc])) (fun c hc => hy c (by simp [hc]))
      have ha := (dig_ofNat a (hx a (by simp))).2
      have hb := (dig_ofNat b (hy b (by simp))).2
      have hax := (dig_ofNat a (hx a (by simp))).1
      have hby := (dig_ofNat b (hy b (by simp))).1
      have tx := decV_top x (fun c hc => hx c (by simp [hc]))
      have ty := decV_top y (fun c hc => hy c (by simp [hc]))
      have ga : 48 ≤ a.toNat := by
        have := hx a (by simp)
        unfold isDig at this
        simp [UInt8.le_iff_toNat_le] at this
        exact this.1
      have gb : 48 ≤ b.toNat := by
        have := hy b (by simp)
        unfold isDig at this
        simp [UInt8.le_iff_toNat_le] at this
        exact this.1
      rw [decV_cons, decV_cons, hl]
      rw [hl] at tx
      by_cases hlt : a < b
      · have h1 : a.toNat < b.toNat := UInt8.lt_iff_toNat_lt.1 hlt
        have h2 : (a.toNat - 48 + 1) * 10 ^ y.length ≤ (b.toNat - 48) * 10 ^ y.length := Nat.mul_le_mul_right _ (by omega)
        rw [Nat.succ_mul] at h2
        have h3 : (a.toNat - 48) * 10 ^ y.length + decV x ≤ (b.toNat - 48) * 10 ^ y.length + decV y := by omega
        simp [Go.Op.bytesLess, hlt, h3]
      · by_cases he : a = b
        · subst he
          have e1 : (Go.Op.bytesLess (a :: x) (a :: y) || (a :: x) == (a :: y)) = (Go.Op.bytesLess x y || x == y) := by
            simp [Go.Op.bytesLess]
          rw [e1, hh]
          simp
        · have h1 : b.toNat < a.toNat := by
            have h4 : ¬ a.toNat < b.toNat := fun h => hlt (UInt8.lt_iff_toNat_lt.2 h)
            have h5 : a.toNat ≠ b.toNat := fun h => he (UInt8.toNat_inj.1 h)
            omega
          have h2 : (b.toNat - 48 + 1) * 10 ^ y.length ≤ (a.toNat - 48) * 10 ^ y.length := Nat.mul_le_mul_right _ (by omega)
          rw [Nat.succ_mul] at h2
          have h3 : ¬ (a.toNat - 48) * 10 ^ y.length + decV x ≤ (b.toNat - 48) * 10 ^ y.length + decV y := by omega
          simp [Go.Op.bytesLess, hlt, he, h3]
/-- A row of digits that tells no whole number up to a greatest one, as the document says it. -/
def badDoc (d m : By) : Bool := d.isEmpty || (decide (1 < d.length) && d.headD 0 == 48) || decide (m.length < d.length) || (decide (d.length = m.length) && !(Go.Op.bytesLess d m || d == m))
theorem bad_eq (d m : By) (bits : Nat) (hd : ∀ c ∈ d, isDig c = true) (hm : ∀ c ∈ m, isDig c = true) (hV : decV m + 1 = 2 ^ bits) (h0 : m.headD 0 ≠ 48) (hne : m ≠ []) : badDoc d m = badWhole d bits := by
  unfold badDoc badWhole
  by_cases he : d = []
  · subst he; rfl
  · have hE : d.isEmpty = false := by simpa using he
    rw [hE]
    by_cases hz : 1 < d.length ∧ d.headD 0 = 48
    · have : (decide (1 < d.length) && d.headD 0 == 48) = true := by
        rw [hz.2]; simp [hz.1]
      rw [this]
      simp
    · have hzf : (decide (1 < d.length) && d.headD 0 == 48) = false := by
        rw [Bool.eq_false_iff]
        intro h
        simp at h
        exact hz (by simpa using h)
      rw [hzf]
      have tm := decV_top m hm
      have lm := decV_low m hm hne h0
      have td := decV_top d hd
      have mp : 0 < m.length := List.length_pos_iff.2 hne
      have dp : 0 < d.length := List.length_pos_iff.2 he
      rcases Nat.lt_trichotomy m.length d.length with h | h | h
      · have hd0 : d.headD 0 ≠ 48 := fun e => hz ⟨by omega, e⟩
        have ld := decV_low d hd he hd0
        have hp : 10 ^ m.length ≤ 10 ^ (d.length - 1) := Nat.pow_le_pow_right (by decide) (by omega)
        have e1 : decide (m.length < d.length) = true := by simpa using h
        have e2 : decide (2 ^ bits ≤ decV d) = true := by simp; omega
        rw [e1, e2]
        simp
      · have e1 : decide (m.length < d.length) = false := by simp; omega
        have e2 : decide (d.length = m.length) = true := by simp; omega
        rw [e1, e2, less_dec d m h.symm hd hm]
        by_cases hle : decV d ≤ decV m
        · have e3 : decide (2 ^ bits ≤ decV d) = false := by simp; omega
          rw [e3]
          simp [hle]
        · have e3 : decide (2 ^ bits ≤ decV d) = true := by simp; omega
          rw [e3]
          simp
          omega
      · have e1 : decide (m.length < d.length) = false := by simp; omega
        have e2 : decide (d.length = m.length) = false := by simp; omega
        have hp : 10 ^ d.length ≤ 10 ^ (m.length - 1) := Nat.pow_le_pow_right (by decide) (by omega)
        have e3 : decide (2 ^ bits ≤ decV d) = false := by simp; omega
        rw [e1, e2, e3]
        rfl
def m255 : By := [50, 53, 53]
def m63 : By := [57, 50, 50, 51, 51, 55, 50, 48, 51, 54, 56, 53, 52, 55, 55, 53, 56, 48, 55]
theorem bad255 (d : By) (hd : ∀ c ∈ d, isDig c = true) : badDoc d m255 = badWhole d 8 := bad_eq d m255 8 hd (by decide) (by decide) (by decide) (by decide)
theorem bad63 (d : By) (hd : ∀ c ∈ d, isDig c = true) : badDoc d m63 = badWhole d 63 := bad_eq d m63 63 hd (by decide) (by decide) (by decide) (by decide)
/-! A text behind one byte more. -/
def shA (a : Int) : Int := if a < 0 then a else a + 1
def shS (st : St) : St := (st.1 + 1, shA st.2)
theorem shA_neg (a : Int) : (shA a < 0) = (a < 0) := by
  unfold shA
  split <;> (apply propext; omega)
theorem shA_nat (n : Nat) : shA (n : Int) = ((n + 1 : Nat) : Int) := by
  unfold shA
  rw [if_neg (by omega)]
  omega
theorem must_sh (c : UInt8) (s : By) : ∀ (ws : List By) (st : St), mustS (c :: s) ws (shS st) = shS (mustS s ws st) := by
  intro ws
  induction ws with
  | nil => intro st; rfl
  | cons w ws ih =>
    intro st
    have e : (shS st).2 < 0 ↔ st.2 < 0 := by rw [show (shS st).2 = shA st.2 from rfl, shA_neg]
    by_cases h : st.2 < 0
    · rw [mustS, if_pos (e.2 h), mustS, if_pos h]
      have ed : (c :: s).drop (shS st).1 = s.drop st.1 := by show (c :: s).drop (st.1 + 1) = _; simp
      rw [ed]
      by_cases hp : w.isPrefixOf (s.drop st.1) = true
      · rw [if_pos hp, if_pos hp, ← ih]
        congr 1
        show (st.1 + 1 + w.length, shA st.2) = (st.1 + w.length + 1, shA st.2)
        rw [Nat.add_right_comm]
      · rw [if_neg hp, if_neg hp]
        show (st.1 + 1, ((st.1 + 1 : Nat) : Int)) = (st.1 + 1, shA (st.1 : Int))
        rw [shA_nat]
    · rw [must_not _ _ _ (fun x => h (e.1 x)), must_not _ _ _ h]
theorem run_sh (c : UInt8) (s : By) (p : UInt8 → Bool) (m i : Nat) : runS (c :: s) p m (i + 1) = runS s p m i := rfl
theorem sixteen_sh (c : UInt8) (s : By) (st : St) : sixteenS (c :: s) (shS st) = ((sixteenS s st).1, shS (sixteenS s st).2) := by
  have e : (shS st).2 < 0 ↔ st.2 < 0 := by rw [show (shS st).2 = shA st.2 from rfl, shA_neg]
  unfold sixteenS
  have er : runS (c :: s) isHex 16 (shS st).1 = runS s isHex 16 st.1 := rfl
  by_cases h : st.2 < 0
  · rw [if_pos (e.2 h), if_pos h]
    simp only [er]
    by_cases hl : (runS s isHex 16 st.1).length = 16
    · rw [if_pos hl, if_pos hl]
      show (_, (st.1 + 1 + 16, shA st.2)) = (_, (st.1 + 16 + 1, shA st.2))
      rw [Nat.add_right_comm]
    · rw [if_neg hl, if_neg hl]
      show (0, (st.1 + 1 + _, ((st.1 + 1 : Nat) : Int))) = (0, (st.1 + _ + 1, shA (st.1 : Int)))
      rw [Nat.add_right_comm, shA_nat]
  · rw [if_neg (fun x => h (e.1 x)), if_neg h]
theorem float_sh (c : UInt8) (s : By) (st : St) : floatS (c :: s) (shS st) = ((floatS s st).1, shS (floatS s st).2) := by
  unfold floatS
  simp only [sixteen_sh]
  by_cases h : bitsS (sixteenS s st).1 = (sixteenS s st).1
  · rw [if_pos h, if_pos h]
  · rw [if_neg h, if_neg h]
    unfold wrongS
    have e : (shS (sixteenS s st).2).2 < 0 ↔ (sixteenS s st).2.2 < 0 := by rw [show (shS (sixteenS s st).2).2 = shA (sixteenS s st).2.2 from rfl, shA_neg]
    by_cases h2 : (sixteenS s st).2.2 < 0
    · rw [if_pos (e.2 h2), if_pos h2]
      show (_, ((sixteenS s st).2.1 + 1, ((st.1 + 1 : Nat) : Int))) = (_, ((sixteenS s st).2.1 + 1, shA (st.1 : Int)))
      rw [shA_nat]
    · rw [if_neg (fun x => h2 (e.1 x)), if_neg h2]
theorem num_sh (c : UInt8) (s : By) (st : St) : numS (c :: s) (shS st) = ((numS s st).1, shS (numS s st).2) := by
  unfold numS
  simp only [float_sh, must_sh]
/-- The document's reading of a number: a blank ahead. -/
theorem num_doc (s : By) : numS (32 :: s) (mustS (32 :: s) [[32]] (0, -1)) = ((numS s (0, -1)).1, shS (numS s (0, -1)).2) := by
  rw [show mustS (32 :: s) [[32]] (0, -1) = shS (0, -1) by simp [mustS, shS, shA]]
  exact num_sh 32 s (0, -1)
end Go.Proofs.YtnagagcgmfkjjaaGreatDoor
