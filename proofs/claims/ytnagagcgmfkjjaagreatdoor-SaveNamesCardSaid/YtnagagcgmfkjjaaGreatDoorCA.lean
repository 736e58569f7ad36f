/- What is written is read; the lists of the closed sentence. -/
import Derived.Test.YtnagagcgmfkjjaaGreatDoorAH
import Derived.KernelRfl
set_option linter.unusedSimpArgs false
set_option linter.unusedVariables false
namespace Go.Proofs.YtnagagcgmfkjjaaGreatDoor
open Go.RowKit
/-! What is written is read. -/
theorem drop_more {s u t : By} {i : Nat} (h : s.drop i = u ++ t) : s.drop (i + u.length) = t := by
  rw [← List.drop_drop, h, List.drop_left]
theorem must_fwd (s : By) : ∀ (ws : List By) (i : Nat) (a : Int) (t : By), s.drop i = ws.flatten ++ t → a < 0 → mustS s ws (i, a) = (i + ws.flatten.length, a) := by
  intro ws
  induction ws with
  | nil => intro i a t h ha; simp [mustS]
  | cons w ws ih =>
    intro i a t h ha
    have h' : s.drop i = w ++ (ws.flatten ++ t) := by rw [h]; simp
    have hp : w.isPrefixOf (s.drop i) = true := by
      rw [List.isPrefixOf_iff_prefix, h']
      exact List.prefix_append _ _
    rw [mustS, if_pos (show ((i, a) : St).2 < 0 from ha)]
    show (if w.isPrefixOf (s.drop i) then mustS s ws (i + w.length, a) else _) = _
    rw [if_pos hp, ih (i + w.length) a t (drop_more h') ha]
    simp
    omega
theorem digit_of (k : Nat) (h : k < 10) : isDig (UInt8.ofNat (48 + k)) = true ∧ (UInt8.ofNat (48 + k)).toNat - 48 = k := by
  have H : ∀ n : Fin 10, isDig (UInt8.ofNat (48 + n.1)) = true ∧ (UInt8.ofNat (48 + n.1)).toNat - 48 = n.1 := by decide +kernel
  exact H ⟨k, h⟩
theorem decW_lt {n : Nat} (h : n < 10) : decW n = [UInt8.ofNat (48 + n)] := by rw [decW, if_pos h]
theorem decW_ge {n : Nat} (h : ¬ n < 10) : decW n = decW (n / 10) ++ [UInt8.ofNat (48 + n % 10)] := by rw [decW, if_neg h]
theorem decW_props (n : Nat) : (∀ c ∈ decW n, isDig c = true) ∧ decV (decW n) = n ∧ decW n ≠ [] ∧ (1 < (decW n).length → (decW n).headD 0 ≠ 48) ∧ (0 < n → (decW n).headD 0 ≠ 48) := by
  induction n using Nat.strongRecOn with
  | _ n ih =>
    by_cases h : n < 10
    · rw [decW_lt h]
      have hd := digit_of n h
      refine ⟨by simpa using hd.1, ?_, by simp, by simp, fun h0 e => ?_⟩
      · show 10 * 0 + ((UInt8.ofNat (48 + n)).toNat - 48) = n
        rw [hd.2]; omega
      · simp only [List.headD_cons] at e
        rw [e] at hd
        have := hd.2
        simp at this
        omega
    · rw [decW_ge h]
      obtain ⟨i1, i2, i3, i4, i5⟩ := ih (n / 10) (by omega)
      have hd := digit_of (n % 10) (by omega)
      have hh : (decW (n / 10) ++ [UInt8.ofNat (48 + n % 10)]).headD 0 = (decW (n / 10)).headD 0 := by
        cases hq : decW (n / 10) with
        | nil => exact absurd hq i3
        | cons x y => rfl
      have hp : 0 < n / 10 := by omega
      refine ⟨fun c hc => ?_, ?_, by simp, fun _ => by rw [hh]; exact i5 hp, fun _ => by rw [hh]; exact i5 hp⟩
      · rcases List.mem_append.1 hc with hc | hc
        · exact i1 c hc
        · rw [List.mem_singleton] at hc; rw [hc]; exact hd.1
      · rw [decV_snoc, i2, hd.2]; omega
theorem take_while_all {p : UInt8 → Bool} : ∀ (u t : By), (∀ c ∈ u, p c = true) → (∀ c, t.head? = some c → p c = false) → (u ++ t).takeWhile p = u := by
  intro u
  induction u with
  | nil =>
    intro t _ ht
    cases t with
    | nil => rfl
    | cons c r => simp [List.takeWhile, ht c rfl]
  | cons x u ih =>
    intro t hu ht
    simp only [List.cons_append, List.takeWhile, hu x (by simp)]
    rw [ih t (fun c hc => hu c (by simp [hc])) ht]
theorem whole_fwd (s : By) (bits i n : Nat) (a : Int) (t : By) (h : s.drop i = decW n ++ t) (hn : n < 2 ^ bits) (ht : ∀ c, t.head? = some c → isDig c = false) (ha : a < 0) : wholeS s bits (i, a) = (n, (i + (decW n).length, a)) := by
  obtain ⟨d1, d2, d3, d4, -⟩ := decW_props n
  have hr : runS s isDig s.length i = decW n := by
    unfold runS
    rw [List.take_of_length_le (by simp), h]
    exact take_while_all _ _ d1 ht
  have hb : badWhole (decW n) bits = false := by
    unfold badWhole
    rw [d2]
    have e1 : (decW n).isEmpty = false := by cases hq : decW n with
      | nil => exact absurd hq d3
      | cons x y => rfl
    have e2 : decide (2 ^ bits ≤ n) = false := by rw [decide_eq_false_iff_not]; omega
    rw [e1, e2]
    by_cases h1 : 1 < (decW n).length
    · have : ((decW n).headD 0 == 48) = false := by rw [beq_eq_false_iff_ne]; exact d4 h1
      rw [this]; simp
    · rw [show decide (1 < (decW n).length) = false by rw [decide_eq_false_iff_not]; exact h1]; rfl
  unfold wholeS
  rw [if_pos (show ((i, a) : St).2 < 0 from ha)]
  simp only [hr, hb, d2]
  rfl
theorem hexC_ok (k : Nat) (h : k < 16) : isHex (hexC k) = true ∧ hexD (hexC k) = k := by
  have H : ∀ n : Fin 16, isHex (hexC n.1) = true ∧ hexD (hexC n.1) = n.1 := by decide +kernel
  exact H ⟨k, h⟩
theorem hexW_props : ∀ (k n : Nat), (hexW k n).length = k ∧ (∀ c ∈ hexW k n, isHex c = true) ∧ hexV (hexW k n) = n % 16 ^ k := by
  intro k
  induction k with
  | zero => intro n; refine ⟨rfl, by simp [hexW], ?_⟩; simp [hexW, hexV, Nat.mod_one]
  | succ k ih =>
    intro n
    obtain ⟨i1, i2, i3⟩ := ih (n / 16)
    have hd := hexC_ok (n % 16) (by omega)
    refine ⟨by simp [hexW, i1], fun c hc => ?_, ?_⟩
    · simp only [hexW] at hc
      rcases List.mem_append.1 hc with hc | hc
      · exact i2 c hc
      · rw [List.mem_singleton] at hc; rw [hc]; exact hd.1
    · simp only [hexW]
      rw [hexV_snoc, i3, hd.2, Nat.pow_succ, Nat.mul_comm (16 ^ k) 16, Nat.mod_mul]
      omega
theorem sixteen_fwd (s : By) (i n : Nat) (a : Int) (t : By) (h : s.drop i = hexW 16 n ++ t) (hn : n < 18446744073709551616) (ha : a < 0) : sixteenS s (i, a) = (n, (i + 16, a)) := by
  obtain ⟨d1, d2, d3⟩ := hexW_props 16 n
  have hr : runS s isHex 16 i = hexW 16 n := by
    unfold runS
    rw [h, List.take_append_of_le_length (by omega), List.take_of_length_le (by omega)]
    have := take_while_all (p := isHex) (hexW 16 n) [] d2 (by simp)
    simpa using this
  unfold sixteenS
  rw [if_pos (show ((i, a) : St).2 < 0 from ha)]
  simp only [hr, d1, if_pos rfl, d3]
  rw [Nat.mod_eq_of_lt (by simpa using hn)]
  rfl
theorem float_fwd (s : By) (i n : Nat) (a : Int) (t : By) (h : s.drop i = hexW 16 (bitsS n) ++ t) (hn : n < 18446744073709551616) (hb : bitsS n = n) (ha : a < 0) : floatS s (i, a) = (n, (i + 16, a)) := by
  rw [hb] at h
  unfold floatS
  rw [sixteen_fwd s i n a t h hn ha]
  simp only [hb, if_pos rfl]
  rfl
/-- A float that is read as it was written. -/
def okF (n : Nat) : Prop := n < 18446744073709551616 ∧ bitsS n = n
theorem blankF_fwd (s : By) (i n : Nat) (a : Int) (t : By) (h : s.drop i = [32] ++ hexW 16 (bitsS n) ++ t) (hn : okF n) (ha : a < 0) : floatS s (mustS s [[32]] (i, a)) = (n, (i + 17, a)) := by
  rw [must_fwd s [[32]] i a (hexW 16 (bitsS n) ++ t) (by rw [h]; simp) ha]
  exact float_fwd s (i + 1) n a t (by have := drop_more (u := [32]) (t := hexW 16 (bitsS n) ++ t) (by rw [h]; simp); simpa using this) hn.1 hn.2 ha
theorem num_fwd (s : By) (i x y : Nat) (a : Int) (t : By) (h : s.drop i = hexW 16 (bitsS x) ++ [32] ++ hexW 16 (bitsS y) ++ t) (hx : okF x) (hy : okF y) (ha : a < 0) : numS s (i, a) = ((x, y), (i + 33, a)) := by
  unfold numS
  have h1 := float_fwd s i x a ([32] ++ hexW 16 (bitsS y) ++ t) (by rw [h]; simp) hx.1 hx.2 ha
  have hl := (hexW_props 16 (bitsS x)).1
  have h2 := blankF_fwd s (i + 16) y a t (by
    have := drop_more (u := hexW 16 (bitsS x)) (t := [32] ++ hexW 16 (bitsS y) ++ t) (by rw [h]; simp)
    rw [hl] at this; exact this) hy ha
  rw [h1]
  simp only [h2]
/-- A line that is read as it was written, a line end behind it. -/
def LineFwd {α : Type} (s : By) (line : St → α × St) (w : α → By) (x : α) : Prop :=
  ∀ (i : Nat) (a : Int) (t : By), s.drop i = w x ++ [10] ++ t → a < 0 → line (i, a) = (x, (i + (w x).length, a))
theorem lines_fwd {α : Type} (s one : By) (line : St → α × St) (w : α → By) : ∀ (l : List α) (i : Nat) (a : Int) (t : By), (∀ x ∈ l, LineFwd s line w x) → s.drop i = (l.flatMap fun x => one ++ [32] ++ w x ++ [10]) ++ t → a < 0 →
    linesS s one line l.length (i, a) = (l, (i + (l.flatMap fun x => one ++ [32] ++ w x ++ [10]).length, a)) := by
  intro l
  induction l with
  | nil => intro i a t _ h ha; simp [linesS]
  | cons x l ih =>
    intro i a t hl h ha
    obtain ⟨r, hr⟩ : ∃ r, r = (l.flatMap fun x => one ++ [32] ++ w x ++ [10]) := ⟨_, rfl⟩
    have h1 : s.drop i = [one, [32]].flatten ++ (w x ++ [10] ++ (r ++ t)) := by rw [h, List.flatMap_cons, ← hr]; simp
    have m1 := must_fwd s [one, [32]] i a _ h1 ha
    have h2 := drop_more h1
    have m2 := hl x (by simp) _ a _ h2 ha
    have h3 : s.drop (i + [one, [32]].flatten.length + (w x).length) = [[10]].flatten ++ (r ++ t) := by
      have := drop_more (u := w x) (t := [10] ++ (r ++ t)) (by rw [h2]; simp)
      rw [this]; simp
    have m3 := must_fwd s [[10]] _ a _ h3 ha
    have m4 := ih _ a t (fun y hy => hl y (by simp [hy])) (by rw [drop_more h3, hr]) ha
    simp only [List.length_cons, linesS, if_pos (show ((i, a) : St).2 < 0 from ha), m1, m2, m3, m4]
    rw [List.flatMap_cons, ← hr]
    simp
    omega
theorem sumS_lt (l : By) : sumS l < 18446744073709551616 := by
  unfold sumS
  suffices H : ∀ (l : By) (n : Nat), n < 18446744073709551616 → l.foldl (fun n c => ((n ^^^ c.toNat) * 1099511628211) % 18446744073709551616) n < 18446744073709551616 by
    exact H l _ (by decide)
  intro l
  induction l with
  | nil => intro n h; exact h
  | cons c l ih => intro n h; exact ih _ (Nat.mod_lt _ (by decide))
theorem read_fwd {α : Type} (s kind word one : By) (line : St → α × St) (w : α → By) (l : List α) (hs : s = savedW kind word l.length (l.flatMap fun x => one ++ [32] ++ w x ++ [10])) (hsz : s.length ≤ 65536) (hn : l.length < 2 ^ 63) (hl : ∀ x ∈ l, LineFwd s line w x) :
    readS s kind word one line = (l, 0, 0) := by
  obtain ⟨r, hr⟩ : ∃ r, r = (l.flatMap fun x => one ++ [32] ++ w x ++ [10]) := ⟨_, rfl⟩
  obtain ⟨T, hT⟩ : ∃ T, T = [101, 100, 100, 121, 32] ++ kind ++ [32, 49, 10] ++ word ++ [32] ++ decW l.length ++ [10] ++ r := ⟨_, rfl⟩
  have hs' : s = T ++ [115, 117, 109, 32] ++ hexW 16 (sumS T) ++ [10] := by rw [hs]; unfold savedW; rw [← hr, hT]
  obtain ⟨e, he⟩ : ∃ e : By, e = [115, 117, 109, 32] ++ hexW 16 (sumS T) ++ [10] := ⟨_, rfl⟩
  have hs2 : s = T ++ e := by rw [hs', he]; simp
  have h0 : s.drop 0 = (headL kind word).flatten ++ (decW l.length ++ ([10] ++ (r ++ e))) := by
    rw [List.drop_zero, hs2, hT]; simp [headL]
  have a0 : (-1 : Int) < 0 := by decide
  have m0 := must_fwd s (headL kind word) 0 (-1) _ h0 a0
  have h1 := drop_more h0
  have m1 := whole_fwd s 63 _ l.length (-1) _ h1 hn (by intro c hc; simp at hc; rw [← hc]; rfl) a0
  have h2 : s.drop (0 + (headL kind word).flatten.length + (decW l.length).length) = [[10]].flatten ++ (r ++ e) := by rw [drop_more h1]; simp
  have m2 := must_fwd s [[10]] _ (-1) _ h2 a0
  have h3 := drop_more h2
  rw [hr] at h3
  have m3 := lines_fwd s one line w l _ (-1) e hl h3 a0
  rw [← hr] at m3 h3
  have h4 := drop_more h3
  obtain ⟨P, hP⟩ : ∃ P, P = 0 + (headL kind word).flatten.length + (decW l.length).length + [([10] : By)].flatten.length + r.length := ⟨_, rfl⟩
  have hPT : P = T.length := by rw [hP, hT]; simp [headL]; omega
  rw [← hP] at m3 h4
  have h5 : s.drop P = [[115, 117, 109], [32]].flatten ++ (hexW 16 (sumS T) ++ [10]) := by rw [h4, he]; simp
  have m4 := must_fwd s [[115, 117, 109], [32]] P (-1) _ h5 a0
  have h6 := drop_more h5
  have m5 := sixteen_fwd s _ (sumS T) (-1) _ h6 (sumS_lt T) a0
  have hl16 := (hexW_props 16 (sumS T)).1
  have h7 := drop_more h6
  rw [hl16] at h7
  have m6 := must_fwd s [[10]] _ (-1) [] (by rw [h7]; simp) a0
  have hlen : s.length = P + 4 + 16 + 1 := by rw [hPT, hs']; simp [hl16]
  have hsum : sumS T = sumS (s.take P) := by
    rw [hPT, hs']
    simp
  unfold readS
  rw [if_neg (by omega)]
  simp only [m0, m1, m2, m3]
  unfold endsS
  simp only [m4, m5, m6]
  have hc : ¬ ((-1 : Int) < 0 ∧ P + [([115, 117, 109] : By), [32]].flatten.length + 16 + [([10] : By)].flatten.length < s.length) := by
    rintro ⟨-, h⟩
    simp at h
    omega
  simp only [if_neg hc]
  rw [if_pos (by decide), if_pos hsum]
/-! The lines of the three saves. -/
theorem trac_fwd (s : By) (x : Tr) (h1 : okF x.1.1) (h2 : okF x.1.2) (h3 : okF x.2.1) (h4 : x.2.2 < 256) : LineFwd s (tracS s) trW x := by
  intro i a t h ha
  have hl1 := (hexW_props 16 (bitsS x.1.1)).1
  have hl2 := (hexW_props 16 (bitsS x.1.2)).1
  have hl3 := (hexW_props 16 (bitsS x.2.1)).1
  have e0 : s.drop i = hexW 16 (bitsS x.1.1) ++ [32] ++ hexW 16 (bitsS x.1.2) ++ ([32] ++ hexW 16 (bitsS x.2.1) ++ ([32] ++ (decW x.2.2 ++ ([10] ++ t)))) := by
    rw [h]; simp [trW, floatsW]
  have m0 := num_fwd s i x.1.1 x.1.2 a _ e0 h1 h2 ha
  have e1 : s.drop (i + 33) = [32] ++ hexW 16 (bitsS x.2.1) ++ ([32] ++ (decW x.2.2 ++ ([10] ++ t))) := by
    have := drop_more e0
    simp only [List.length_append, hl1, hl2, List.length_cons, List.length_nil] at this
    exact this
  have m1 := blankF_fwd s (i + 33) x.2.1 a _ e1 h3 ha
  have e2 : s.drop (i + 50) = [[32]].flatten ++ (decW x.2.2 ++ ([10] ++ t)) := by
    have := drop_more e1
    simp only [List.length_append, hl3, List.length_cons, List.length_nil] at this
    rw [show i + 50 = i + 33 + (0 + 1 + 16) by omega, this]; simp
  have m2 := must_fwd s [[32]] (i + 50) a _ e2 ha
  have m3 := whole_fwd s 8 _ x.2.2 a _ (drop_more e2) h4 (by intro c hc; simp at hc; rw [← hc]; rfl) ha
  unfold tracS
  simp only [m0, m1]
  rw [show i + 33 + 17 = i + 50 by omega, m2, m3]
  simp [trW, floatsW, hl1, hl2, hl3]
  omega
theorem elem_fwd (s : By) (x : El) (h0 : x.1 < 256) (h1 : okF x.2.1.1) (h2 : okF x.2.1.2) (h3 : okF x.2.2.1.1) (h4 : okF x.2.2.1.2) (h5 : okF x.2.2.2) : LineFwd s (elemS s) elW x := by
  intro i a t h ha
  have hl1 := (hexW_props 16 (bitsS x.2.1.1)).1
  have hl2 := (hexW_props 16 (bitsS x.2.1.2)).1
  have hl3 := (hexW_props 16 (bitsS x.2.2.1.1)).1
  have hl4 := (hexW_props 16 (bitsS x.2.2.1.2)).1
  have hl5 := (hexW_props 16 (bitsS x.2.2.2)).1
  have e0 : s.drop i = decW x.1 ++ ([[32]].flatten ++ (hexW 16 (bitsS x.2.1.1) ++ [32] ++ hexW 16 (bitsS x.2.1.2) ++ ([[32]].flatten ++ (hexW 16 (bitsS x.2.2.1.1) ++ [32] ++ hexW 16 (bitsS x.2.2.1.2) ++ ([32] ++ hexW 16 (bitsS x.2.2.2) ++ ([10] ++ t)))))) := by
    rw [h]; simp [elW, floatsW]
  have m0 := whole_fwd s 8 i x.1 a _ e0 h0 (by intro c hc; simp at hc; rw [← hc]; rfl) ha
  have e1 := drop_more e0
  have m1 := must_fwd s [[32]] _ a _ e1 ha
  have e2 := drop_more e1
  have m2 := num_fwd s _ x.2.1.1 x.2.1.2 a _ e2 h1 h2 ha
  have e3 := drop_more e2
  simp only [List.length_append, hl1, hl2, List.length_cons, List.length_nil] at e3
  have m3 := must_fwd s [[32]] _ a _ e3 ha
  have e4 := drop_more e3
  have m4 := num_fwd s _ x.2.2.1.1 x.2.2.1.2 a _ e4 h3 h4 ha
  have e5 := drop_more e4
  simp only [List.length_append, hl3, hl4, List.length_cons, List.length_nil] at e5
  have m5 := blankF_fwd s _ x.2.2.2 a _ e5 h5 ha
  unfold elemS
  simp only [m0, m1, m2]
  rw [show i + (decW x.1).length + [([32] : By)].flatten.length + 33 = i + (decW x.1).length + [([32] : By)].flatten.length + (16 + (0 + 1) + 16) by omega, m3]
  simp only [m4]
  rw [show i + (decW x.1).length + [([32] : By)].flatten.length + (16 + (0 + 1) + 16) + [([32] : By)].flatten.length + 33 = i + (decW x.1).length + [([32] : By)].flatten.length + (16 + (0 + 1) + 16) + [([32] : By)].flatten.length + (16 + (0 + 1) + 16) by omega, m5]
  simp [elW, floatsW, hl1, hl2, hl3, hl4, hl5]
  omega
/-! The lists of the closed sentence. -/
theorem flat_rep {α β : Type} (f : α → List β) (x : α) (n : Nat) : ((List.replicate n x).flatMap f).length = n * (f x).length := by
  induction n with
  | zero => simp
  | succ n ih => rw [List.replicate_succ, List.flatMap_cons, List.length_append, ih, Nat.add_mul]; omega
theorem saved_len (kind word : By) (n : Nat) (body : By) : (savedW kind word n body).length = kind.length + word.length + (decW n).length + body.length + 31 := by
  unfold savedW
  simp [(hexW_props 16 _).1]
  omega
def zTr : Tr := ((0, 0), 0, 0)
def zWh : Wh := ((0, 0), 0)
def oneStream : El := (1, (0, 0), (4607182418800017408, 0), 0)
theorem okF_0 : okF 0 := ⟨by decide, by kernel_rfl⟩
theorem okF_1 : okF 4607182418800017408 := ⟨by decide, by kernel_rfl⟩
theorem line_z : (wTracer ++ [32] ++ trW zTr ++ [10]).length = 60 := by
  simp [wTracer, zTr, trW, floatsW, (hexW_props 16 _).1, decW_lt (n := 0) (by decide)]
theorem tracers_len (n : Nat) : (tracersW (List.replicate n zTr)).length = (decW n).length + n * 60 + 45 := by
  unfold tracersW
  rw [saved_len, flat_rep, line_z, List.length_replicate]
  simp [wTracers]
  omega
theorem dec_1000 : (decW 1000).length = 4 := by
  rw [decW_ge (by decide), show 1000 / 10 = 100 from rfl, decW_ge (n := 100) (by decide), show 100 / 10 = 10 from rfl, decW_ge (n := 10) (by decide), show 10 / 10 = 1 from rfl, decW_lt (by decide)]
  rfl
theorem dec_256 : (decW 256).length = 3 := by
  rw [decW_ge (by decide), show 256 / 10 = 25 from rfl, decW_ge (n := 25) (by decide), show 25 / 10 = 2 from rfl, decW_lt (by decide)]
  rfl
theorem tracers_many : (tracersO (List.replicate 4097 zTr)).2 = 4 := by
  unfold tracersO
  rw [if_pos (by rw [List.length_replicate]; decide)]
theorem tracers_long : (tracersO (List.replicate 4096 zTr)).2 = 3 := by
  unfold tracersO fitS
  rw [if_neg (by rw [List.length_replicate]; decide), if_pos (by rw [tracers_len]; omega)]
theorem tracers_1000 : tracersO (List.replicate 1000 zTr) = (tracersW (List.replicate 1000 zTr), 0) := by
  unfold tracersO fitS
  rw [if_neg (by rw [List.length_replicate]; decide), if_neg (by rw [tracers_len, dec_1000]; decide)]
theorem tracers_back : tracersR (tracersW (List.replicate 1000 zTr)) = (List.replicate 1000 zTr, 0, 0) := by
  have h : readT (tracersW (List.replicate 1000 zTr)) = (List.replicate 1000 zTr, 0, 0) :=
    read_fwd _ wTracers wTracers wTracer _ trW _ rfl (by rw [tracers_len, dec_1000]; decide) (by rw [List.length_replicate]; decide) (fun x hx => by
      rw [List.eq_of_mem_replicate hx]
      exact trac_fwd _ zTr okF_0 okF_0 okF_0 (by decide))
  unfold tracersR
  rw [h]
  rw [if_pos (show ((List.replicate 1000 zTr, 0, 0) : List Tr × Int × Int).2.1 = 0 from rfl), if_neg (by show ¬ 4096 < (List.replicate 1000 zTr).length; rw [List.length_replicate]; decide)]
theorem whirls_many : (whirlsO (List.replicate 4097 zWh)).2 = 4 := by
  unfold whirlsO whirlChk
  rw [if_pos (show 4096 < (List.replicate 4097 zWh).length by rw [List.length_replicate]; decide), if_neg (by decide)]
theorem stream_chk : flowChk (List.replicate 256 oneStream) = 0 := by
  unfold flowChk
  rw [if_neg (by rw [List.length_replicate]; decide)]
  refine firstBad_all _ (fun j hj => ?_)
  rw [List.length_map, List.length_replicate] at hj
  rw [List.getElem?_map, List.getElem?_replicate, if_pos hj]
  show some (elChkS oneStream) = some 0
  rw [show elChkS oneStream = 0 by kernel_rfl]
theorem line_s : (wElement ++ [32] ++ elW oneStream ++ [10]).length = 95 := by
  simp [wElement, oneStream, elW, floatsW, (hexW_props 16 _).1, decW_lt (n := 1) (by decide)]
theorem flow_len (n : Nat) : (flowW (List.replicate n oneStream)).length = (decW n).length + n * 95 + 43 := by
  unfold flowW
  rw [saved_len, flat_rep, line_s, List.length_replicate]
  simp [wFlow, wElements]
  omega
theorem flow_256 : flowO (List.replicate 256 oneStream) = (flowW (List.replicate 256 oneStream), 0) := by
  unfold flowO
  rw [if_pos stream_chk]
theorem flow_back : flowR (flowW (List.replicate 256 oneStream)) = (List.replicate 256 oneStream, 0, 0) := by
  have h : readF (flowW (List.replicate 256 oneStream)) = (List.replicate 256 oneStream, 0, 0) :=
    read_fwd _ wFlow wElements wElement _ elW _ rfl (by rw [flow_len, dec_256]; decide) (by rw [List.length_replicate]; decide) (fun x hx => by
      rw [List.eq_of_mem_replicate hx]
      exact elem_fwd _ oneStream (by decide) okF_0 okF_0 okF_1 okF_0 okF_0)
  unfold flowR
  rw [h]
  rw [if_pos (show ((List.replicate 256 oneStream, 0, 0) : List El × Int × Int).2.1 = 0 from rfl), if_pos (show flowChk (List.replicate 256 oneStream) = 0 from stream_chk)]
/-! Texts of noughts. -/
theorem flowR_long (s : By) (h : 65536 < s.length) : flowR s = ([], 3, 0) := by
  unfold flowR readF readS
  rw [if_pos h]
  rfl
theorem readN_long (s : By) (h : 65536 < s.length) : readN s = ((0, 0), 3, 0) := by
  unfold readN
  rw [if_pos h]
theorem must_bad (s : By) (w : By) (ws : List By) (st : St) (h0 : st.2 < 0) (h : w.isPrefixOf (s.drop st.1) = false) : mustS s (w :: ws) st = (st.1, (st.1 : Int)) := by
  rw [mustS, if_pos h0, h]
  rfl
theorem flowR_noughts (n : Nat) (hn : 0 < n) (h : n ≤ 65536) : (flowR (List.replicate n (0 : UInt8))).2 = (290, 0) := by
  have hp : [(101 : UInt8), 100, 100, 121].isPrefixOf ((List.replicate n (0 : UInt8)).drop ((0, -1) : St).1) = false := by
    obtain ⟨m, rfl⟩ : ∃ m, n = m + 1 := ⟨n - 1, by omega⟩
    simp [List.replicate_succ, List.isPrefixOf]
  have h0 : mustS (List.replicate n (0 : UInt8)) (headL wFlow wElements) (0, -1) = (0, 0) := by
    unfold headL
    rw [must_bad _ _ _ _ (by decide) hp]
    rfl
  have h1 : ∀ b, wholeS (List.replicate n (0 : UInt8)) b (0, 0) = (0, (0, 0)) := fun b => by
    unfold wholeS; rw [if_neg (by decide)]
  have h2 : ∀ ws, mustS (List.replicate n (0 : UInt8)) ws (0, 0) = (0, 0) := fun ws => must_not _ _ _ (by decide)
  have h3 : sixteenS (List.replicate n (0 : UInt8)) (0, 0) = (0, (0, 0)) := by unfold sixteenS; rw [if_neg (by decide)]
  have hr : readF (List.replicate n (0 : UInt8)) = ([], 290, 0) := by
    unfold readF readS
    rw [if_neg (by rw [List.length_replicate]; omega)]
    simp only [h0, h1, h2]
    unfold linesS endsS
    simp only [h2, h3]
    rfl
  unfold flowR
  rw [hr, if_neg (by decide)]
/-! Rows that are made. -/
theorem made_rep {α : Type} (cells : α → List Value) (x : α) (n : Nat) (hcl : ∀ y, (cells y).length = (cells x).length) (hs : 0 < (cells x).length) : (madeCells (cells x).toArray (n * (cells x).length)).toList = (List.replicate n x).flatMap cells := by
  refine List.ext_getElem? (fun i => ?_)
  obtain ⟨m, hm⟩ : ∃ m, m = (cells x).length := ⟨_, rfl⟩
  by_cases h : i < n * m
  · have h1 : (madeCells (cells x).toArray (n * (cells x).length)).toList[i]? = (cells x)[i % m]? := by
      rw [hm] at h ⊢
      have hlt : i % (cells x).length < (cells x).length := Nat.mod_lt _ hs
      unfold madeCells
      simp only [Array.toList_map, List.getElem?_map, Array.toList_range, List.getElem?_range h, Option.map_some, List.size_toArray]
      rw [List.getElem?_eq_getElem hlt]
      congr 1
      rw [getElem!_pos (cells x).toArray _ (by simpa using hlt)]
      simp
    have hq : i / m < n := (Nat.div_lt_iff_lt_mul (by omega)).2 h
    have hk : (List.replicate n x)[i / m]? = some x := by rw [List.getElem?_replicate, if_pos hq]
    have h2 := flat_at cells m (fun y => ?_) (List.replicate n x) (i / m) (i % m) x hk (Nat.mod_lt _ (by omega))
    · rw [Nat.div_add_mod' i m] at h2
      rw [h1, h2]
    · rw [hm]; exact hcl y
  · have e1 : (madeCells (cells x).toArray (n * (cells x).length)).toList.length = n * m := by rw [Array.length_toList, size_madeCells, hm]
    have e2 : ((List.replicate n x).flatMap cells).length = n * m := by rw [flat_rep, hm]
    rw [List.getElem?_eq_none (by omega), List.getElem?_eq_none (by omega)]
end Go.Proofs.YtnagagcgmfkjjaaGreatDoor
