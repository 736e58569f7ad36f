/- The examples' values. Worlds; words of 32 bits, plainly. Words in memory: cut, copied, told. -/
import Derived.Test.YtcoillcppmibgaaGreatDoorD04
import Derived.WalkKit
import Derived.WalkLawsBesides
import Derived.WalkSpells
import Derived.Handy
import Derived.OwnWalk
import Derived.Laws.CopyOwn
import Derived.Deep.QuietTactic
import Derived.BigQuiet
import Derived.Deep.CutRange
import Derived.Deep.CutBlock
set_option linter.unusedSimpArgs false
set_option linter.unusedVariables false
namespace Go.Proofs.YtcoillcppmibgaaGreatDoor
section
open Go.RowKit
def Zs (k : Nat) : List Pl := [[(4612755339013477461, 4612755339013477461), (13836127375868253270, 13836127375868253269)], [(4609884583912500736, 13803957781766102272), (13837517219133072726, 4588426604892973440)], [(4611687652408093507, 13778522681381148032), (13837309855117575548, 4510514978142420992)], [(4611686018427387871, 13617586818655453184), (13837309855095848960, 0)], [(4611686018427387904, 13380194492917743616), (13837309855095848960, 0)], [(4611686018427387904, 0), (13837309855095848960, 0)]].getD k []
theorem zs_round (k : Nat) (h : k ≤ 4) : roundR [(13841813454723219456, 0), (4607182418800017408, 0)] (4607182418800017408, 0) 2 2 (Zs k) 2 = some (Zs (k + 1)) := (show ∀ j : Fin 5, roundR [(13841813454723219456, 0), (4607182418800017408, 0)] (4607182418800017408, 0) 2 2 (Zs j.1) 2 = some (Zs (j.1 + 1)) by decide +kernel) ⟨k, by omega⟩
theorem zs_len (k : Nat) (h : k ≤ 5) : (Zs k).length = 2 := (show ∀ j : Fin 6, (Zs j.1).length = 2 by decide +kernel) ⟨k, by omega⟩
theorem zs_rest (k : Nat) (h : k < 4) : restB (Zs k) (Zs (k + 1)) = some false := (show ∀ j : Fin 4, restB (Zs j.1) (Zs (j.1 + 1)) = some false by decide +kernel) ⟨k, h⟩
theorem zs_last : restB (Zs 4) (Zs (4 + 1)) = some true := by decide +kernel
theorem even0 (w : World) : (callFunc 146 #[.float .f64 4602678819172646912]).run Tryz.prog w = .ok (.value (.float .f64 0)) w := by kernel_rfl
theorem even1 (w : World) : (callFunc 146 #[.float .f64 4612811918334230528]).run Tryz.prog w = .ok (.value (.float .f64 4611686018427387904)) w := by kernel_rfl
theorem place0 (w : World) : Calls Tryz.prog 69 #[.float .f64 4615063718147915779, .float .f64 4605249457297304856] w fun e w' => e = .returned (.complex .f64 4612755339013477461 4612755339013477461) ∧ Kp0 w w' :=
  Place_any 4615063718147915779 4605249457297304856 4612755339013477461 4612755339013477461 4604544271217802188 4604544271217802189 w (fun w => turn_0 4605249457297304856 4605249457297304856 w (r := (4604544271217802188, 4604544271217802189)) (fun w => (quarter_0 4605249457297304856 4602678819172646912 0 w (by decide +kernel) (by decide +kernel) even0 (by decide +kernel)).mono (fun e w' h => ⟨h.1, by rw [← h.2]; exact ⟨Below.refl _ _⟩⟩)) (by decide +kernel)) (by decide +kernel) (by decide +kernel)
theorem place1 (w : World) : Calls Tryz.prog 69 #[.float .f64 4615063718147915779, .float .f64 4616025215990052958] w fun e w' => e = .returned (.complex .f64 13836127375868253270 13836127375868253269) ∧ Kp0 w w' :=
  Place_any 4615063718147915779 4616025215990052958 13836127375868253270 13836127375868253269 (Op.negFloat .f64 4604544271217802188) (Op.negFloat .f64 4604544271217802190) w (fun w => turn_2 4616025215990052958 4605249457297304855 w (r := (4604544271217802188, 4604544271217802190)) (fun w => quarter_2 4616025215990052958 4612811918334230528 4605249457297304855 w (by decide +kernel) (by decide +kernel) even1 (by decide +kernel)) (by decide +kernel)) (by decide +kernel) (by decide +kernel)
theorem beginA (g : Nat) (w : World) (hb : BkC w g [.complex .f64 13841813454723219456 0, .complex .f64 4607182418800017408 0, .complex .f64 4607182418800017408 0] 26) : Calls Tryz.prog 28 #[.slice (some ⟨g, 0, none⟩) 3 3] w fun e w' => ∃ b, e = .returned (.tuple #[.slice (some ⟨b, 0, none⟩) 2 2, .int .i64 0]) ∧ PlC w' b (Zs 0) ∧ Kp0 w w' :=
  begin3_any (w := w) (g := g) (cap := 3) (13841813454723219456, 0) (4607182418800017408, 0) (4607182418800017408, 0) (hb := hb) (by decide +kernel) (Nat.le_refl 3) (r := 4619567317775286275) (h := 4615063718147915779) (by decide +kernel) (by decide +kernel) (by decide +kernel) (z0 := (4612755339013477461, 4612755339013477461)) (z1 := (13836127375868253270, 13836127375868253269)) place0 place1
theorem allA {w : World} {g : Nat} [hb : BkC w g [.complex .f64 13841813454723219456 0, .complex .f64 4607182418800017408 0, .complex .f64 4607182418800017408 0] 26] : Calls Tryz.prog 10 #[.slice (some ⟨g, 0, none⟩) 3 3, .int .i64 100] w fun e w' => ∃ b cb, e = .returned (.tuple #[.slice (some ⟨b, 0, none⟩) 2 cb, .int .i64 5, .int .i64 0]) ∧ PlC w' b [(13837309855095848960, 0), (4611686018427387904, 0)] ∧ Kp0 w w' := by
  have k := All_found (w := w) (g := g) (cap := 3) (13841813454723219456, 0) (4607182418800017408, 0) (4607182418800017408, 0) (hb := hb) (by decide +kernel) (Nat.le_refl 3) (most := 100) (N := 4) (by decide) (by decide) Zs (beginA g) (by decide) zs_round zs_len zs_rest zs_last (x := (4611686018427387904, 0)) (y := (13837309855095848960, 0)) rfl (by decide +kernel) (by decide +kernel) (by decide +kernel)
  exact k
theorem allB {w : World} {g : Nat} [hb : BkC w g [.complex .f64 13841813454723219456 0, .complex .f64 4607182418800017408 0, .complex .f64 4607182418800017408 0] 26] : Calls Tryz.prog 10 #[.slice (some ⟨g, 0, none⟩) 3 3, .int .i64 1] w fun e w' => e = .returned (.tuple #[.slice none 0 0, .int .i64 0, .int .i64 8]) ∧ Kp0 w w' :=
  All_steps (w := w) (g := g) (cap := 3) (13841813454723219456, 0) (4607182418800017408, 0) (4607182418800017408, 0) (hb := hb) (by decide +kernel) (Nat.le_refl 3) (most := 1) (N := 1) (by decide) (by decide) Zs (beginA g) rfl (fun k h => zs_round k (by omega)) (fun k h => zs_len k (by omega)) (fun k h => zs_rest k (by omega))
theorem reads3 {w : World} {g : Nat} {a b c : Pl} (hb : BkC w g [.complex .f64 a.1 a.2, .complex .f64 b.1 b.2, .complex .f64 c.1 c.2] 26) : reads w g 0 [a, b, c] := fun i hi => by
  rw [Nat.zero_add]
  have : i = 0 ∨ i = 1 ∨ i = 2 := by simp at hi; omega
  rcases this with rfl | rfl | rfl
  · exact hb.out.cell (i := 0) rfl
  · exact hb.out.cell (i := 1) rfl
  · exact hb.out.cell (i := 2) rfl
theorem polishA {w : World} {g : Nat} [hb : BkC w g [.complex .f64 13835058055282163712 0, .complex .f64 0 0, .complex .f64 4607182418800017408 0] 26] : Calls Tryz.prog 11 #[.slice (some ⟨g, 0, none⟩) 3 3, .complex .f64 4607182418800017408 0, .int .i64 1] w fun e w' => e = .returned (.tuple #[.complex .f64 4609434218613702656 0, .int .i64 0]) ∧ Kp0 w w' :=
  polish1_any (w := w) (g := g) (off := 0) (cap := 3) (m := 2) [(13835058055282163712, 0), (0, 0)] (4607182418800017408, 0) (4607182418800017408, 0) (by decide +kernel) rfl (by decide) (by decide +kernel) hb.out.lt (reads3 (a := (13835058055282163712, 0)) (b := (0, 0)) (c := (4607182418800017408, 0)) hb) (v := (13830554455654793216, 0)) (s := (4611686018427387904, 0)) (d := (13826050856027422720, 0)) (n := (4609434218613702656, 0)) (by decide +kernel) (by decide +kernel) (by decide +kernel) (by decide +kernel) (by decide +kernel) (by decide +kernel) (by decide +kernel) (by decide +kernel) (by decide +kernel)
theorem squareA {w : World} {g : Nat} [hb : BkC w g [.complex .f64 4611686018427387904 0, .complex .f64 13837309855095848960 0, .complex .f64 4607182418800017408 0] 26] : Calls Tryz.prog 8 #[.slice (some ⟨g, 0, none⟩) 3 3] w fun e w' => e = .returned (.tuple #[.complex .f64 4607182418800017408 0, .complex .f64 4611686018427387904 9223372036854775808, .int .i64 0]) ∧ Kp0 w w' :=
  csquare_any (w := w) (g := g) (4611686018427387904, 0) (13837309855095848960, 0) (4607182418800017408, 0) (hb := hb) (by decide +kernel) (r := ((4607182418800017408, 0), (4611686018427387904, 9223372036854775808))) (by decide +kernel)
theorem roundA {w : World} {g h : Nat} [hb : BkC w g [.complex .f64 13830554455654793216 0, .complex .f64 0 0, .complex .f64 4607182418800017408 0] 26] [hz : BkC w h [.complex .f64 4607182418800017408 0, .complex .f64 13830554455654793216 0] 26] : Calls Tryz.prog 13 #[.slice (some ⟨g, 0, none⟩) 3 3, .slice (some ⟨h, 0, none⟩) 2 2] w fun e w' => ∃ b cb, e = .returned (.tuple #[.slice (some ⟨b, 0, none⟩) 2 cb, .int .i64 0]) ∧ PlC w' b [(4607182418800017408, 0), (13830554455654793216, 0)] ∧ Kp0 w w' := by
  haveI : PlC w h [(4607182418800017408, 0), (13830554455654793216, 0)] := ⟨pls2 (x := (4607182418800017408, 0)) (y := (13830554455654793216, 0)) hz⟩
  refine (Round_any (w := w) (g := g) (off := 0) (cap := 3) (m := 2) [(13830554455654793216, 0), (0, 0)] (4607182418800017408, 0) (by decide +kernel) rfl (by decide) hb.out.lt (reads3 (a := (13830554455654793216, 0)) (b := (0, 0)) (c := (4607182418800017408, 0)) hb) (h := h) (ch := 2) [(4607182418800017408, 0), (13830554455654793216, 0)] rfl (by decide) (by decide) (fun i hi => (show ∀ j : Fin 2, okP (([(4607182418800017408, 0), (13830554455654793216, 0)] : List Pl).getD j.1 (0, 0)) = true by decide +kernel) ⟨i, hi⟩) (r := [(4607182418800017408, 0), (13830554455654793216, 0)]) (by decide +kernel)).mono ?_
  rintro e w' ⟨b, cb, h1, -, h2, h3⟩
  exact ⟨b, cb, h1, h2, h3⟩
end
section
open Go.RowKit
namespace Big
/-! Sizes by the shape of a world: an order among sums that is read off their shape. -/
section
variable (w : World) (n i : Nat) [hn : Has w n]
end
/-! Words of 32 bits, the least one first. -/
def val : List Nat → Nat
  | [] => 0
  | x :: l => x + 4294967296 * val l
def Wok (l : List Nat) : Prop := ∀ x ∈ l, x < 4294967296
theorem Wok.nil : Wok [] := fun x h => by cases h
theorem Wok.cons {x : Nat} {l : List Nat} (hx : x < 4294967296) (h : Wok l) : Wok (x :: l) := fun y hy => by
  rcases List.mem_cons.1 hy with rfl | hy
  · exact hx
  · exact h y hy
theorem Wok.tail {x : Nat} {l : List Nat} (h : Wok (x :: l)) : Wok l := fun y hy => h y (List.mem_cons_of_mem _ hy)
theorem Wok.head {x : Nat} {l : List Nat} (h : Wok (x :: l)) : x < 4294967296 := h x List.mem_cons_self
theorem Wok.append {l m : List Nat} (h : Wok l) (k : Wok m) : Wok (l ++ m) := fun y hy => by
  rcases List.mem_append.1 hy with hy | hy
  · exact h y hy
  · exact k y hy
theorem Wok.take {l : List Nat} (h : Wok l) (n : Nat) : Wok (l.take n) := fun y hy => h y (List.mem_of_mem_take hy)
theorem Wok.drop {l : List Nat} (h : Wok l) (n : Nat) : Wok (l.drop n) := fun y hy => h y (List.mem_of_mem_drop hy)
theorem Wok.get {l : List Nat} (h : Wok l) {i x : Nat} (hi : l[i]? = some x) : x < 4294967296 := h x (List.mem_of_getElem? hi)
theorem Wok.rep (n : Nat) : Wok (List.replicate n 0) := fun y hy => by rw [List.eq_of_mem_replicate hy]; decide
theorem Wok.set {l : List Nat} (h : Wok l) (i : Nat) {x : Nat} (hx : x < 4294967296) : Wok (l.set i x) := fun y hy => by
  rcases List.mem_or_eq_of_mem_set hy with hy | rfl
  · exact h y hy
  · exact hx
theorem val_append (l m : List Nat) : val (l ++ m) = val l + 4294967296 ^ l.length * val m := by
  induction l with
  | nil => simp [val]
  | cons x l ih =>
    simp only [List.cons_append, val, List.length_cons, ih, Nat.pow_succ, Nat.mul_add]
    rw [show 4294967296 ^ l.length * 4294967296 * val m = 4294967296 * (4294967296 ^ l.length * val m) by rw [Nat.mul_comm (4294967296 ^ l.length), Nat.mul_assoc]]
    omega
theorem val_rep (n : Nat) : val (List.replicate n 0) = 0 := by
  induction n with
  | zero => rfl
  | succ n ih => rw [List.replicate_succ, val, ih]
theorem val_lt {l : List Nat} (h : Wok l) : val l < 4294967296 ^ l.length := by
  induction l with
  | nil => decide
  | cons x l ih =>
    have h1 := h.head
    have h2 := ih h.tail
    rw [val, List.length_cons, Nat.pow_succ, Nat.mul_comm]
    omega
theorem val_take {l : List Nat} {i x : Nat} (h : l[i]? = some x) : val (l.take (i + 1)) = val (l.take i) + 4294967296 ^ i * x := by
  have hi : i < l.length := by
    rcases Nat.lt_or_ge i l.length with h1 | h1
    · exact h1
    · rw [List.getElem?_eq_none h1] at h; cases h
  rw [List.take_add_one, h, val_append, List.length_take, Nat.min_eq_left (Nat.le_of_lt hi)]
  simp [val]
theorem val_cut {l : List Nat} {k : Nat} (h : ∀ i, k ≤ i → ∀ x, l[i]? = some x → x = 0) : val (l.take k) = val l := by
  have e : l.drop k = List.replicate (l.drop k).length 0 := by
    refine List.eq_replicate_iff.2 ⟨rfl, fun x hx => ?_⟩
    obtain ⟨j, hj⟩ := List.getElem?_of_mem hx
    rw [List.getElem?_drop] at hj
    exact h (k + j) (by omega) x hj
  have h2 := val_append (l.take k) (l.drop k)
  rw [List.take_append_drop, e, val_rep, Nat.mul_zero, Nat.add_zero] at h2
  exact h2.symm
def words (n : Nat) : List Nat := if h : n = 0 then [] else n % 4294967296 :: words (n / 4294967296)
termination_by n
decreasing_by exact Nat.div_lt_self (Nat.pos_of_ne_zero h) (by decide)
theorem words_0 : words 0 = [] := by rw [words]; rfl
theorem words_pos {n : Nat} (h : n ≠ 0) : words n = n % 4294967296 :: words (n / 4294967296) := by rw [words, dif_neg h]
theorem words_ok (n : Nat) : Wok (words n) := by
  induction n using Nat.strongRecOn with
  | _ n ih =>
    by_cases h : n = 0
    · rw [h, words_0]; exact Wok.nil
    · rw [words_pos h]
      exact Wok.cons (Nat.mod_lt _ (by decide)) (ih _ (Nat.div_lt_self (Nat.pos_of_ne_zero h) (by decide)))
theorem val_words (n : Nat) : val (words n) = n := by
  induction n using Nat.strongRecOn with
  | _ n ih =>
    by_cases h : n = 0
    · rw [h, words_0]; rfl
    · rw [words_pos h, val, ih _ (Nat.div_lt_self (Nat.pos_of_ne_zero h) (by decide))]
      omega
/-- Words without noughts at the end are the words of their number. -/
theorem words_val : ∀ {l : List Nat}, Wok l → (∀ x, l.getLast? = some x → x ≠ 0) → words (val l) = l := by
  intro l
  induction l with
  | nil => intro _ _; exact words_0
  | cons x l ih =>
    intro h hl
    have hx := h.head
    have h2 : ∀ y, l.getLast? = some y → y ≠ 0 := fun y hy => by
      cases l with
      | nil => cases hy
      | cons a t => exact hl y (by rw [List.getLast?_cons_cons]; exact hy)
    have ih2 := ih h.tail h2
    have hne : x + 4294967296 * val l ≠ 0 := by
      cases l with
      | nil => have := hl x rfl; omega
      | cons a t =>
        have h3 : val (a :: t) ≠ 0 := by
          intro e
          rw [e, words_0] at ih2
          cases ih2
        omega
    rw [val, words_pos hne, show (x + 4294967296 * val l) % 4294967296 = x by omega, show (x + 4294967296 * val l) / 4294967296 = val l by omega, ih2]
/-- .. and what is cut off at the end are noughts. -/
theorem words_cut {l : List Nat} (h : Wok l) {k : Nat} (h0 : ∀ i, k ≤ i → ∀ x, l[i]? = some x → x = 0) (hk : k = 0 ∨ ∃ x, l[k - 1]? = some x ∧ x ≠ 0) : l.take k = words (val l) := by
  rw [← val_cut h0]
  refine (words_val (h.take k) (fun x hx => ?_)).symm
  rcases hk with rfl | ⟨y, hy, hy0⟩
  · simp at hx
  · have hkl : k - 1 < l.length := by
      rcases Nat.lt_or_ge (k - 1) l.length with h1 | h1
      · exact h1
      · rw [List.getElem?_eq_none h1] at hy; cases hy
    by_cases hk0 : k = 0
    · subst hk0; simp at hx
    · rw [List.getLast?_eq_getElem?, List.length_take, Nat.min_eq_left (by omega), List.getElem?_take_of_lt (by omega), hy] at hx
      obtain rfl := Option.some.inj hx
      exact hy0
theorem words_ne {n : Nat} (h : n ≠ 0) : words n ≠ [] := by rw [words_pos h]; simp
theorem words_len0 {n : Nat} : (words n).length = 0 ↔ n = 0 := by
  constructor
  · intro h
    by_cases h0 : n = 0
    · exact h0
    · rw [words_pos h0] at h; simp at h
  · intro h; rw [h, words_0]; rfl
theorem words_lt (n : Nat) : n < 4294967296 ^ (words n).length := by
  have := val_lt (words_ok n)
  rwa [val_words] at this
theorem words_top {n : Nat} (h : n ≠ 0) : 4294967296 ^ ((words n).length - 1) ≤ n := by
  induction n using Nat.strongRecOn with
  | _ n ih =>
    rw [words_pos h, List.length_cons, Nat.add_sub_cancel]
    by_cases h2 : n / 4294967296 = 0
    · rw [h2, words_0]; simp; omega
    · have := ih _ (Nat.div_lt_self (Nat.pos_of_ne_zero h) (by decide)) h2
      have hl : 0 < (words (n / 4294967296)).length := by
        rcases Nat.eq_zero_or_pos (words (n / 4294967296)).length with e | e
        · exact absurd (words_len0.1 e) h2
        · exact e
      obtain ⟨j, hj⟩ : ∃ j, (words (n / 4294967296)).length = j + 1 := ⟨_, (Nat.succ_pred_eq_of_pos hl).symm⟩
      rw [hj, Nat.add_sub_cancel] at this
      rw [hj, Nat.pow_succ]
      have h3 : 4294967296 ^ j * 4294967296 ≤ n / 4294967296 * 4294967296 := Nat.mul_le_mul_right _ this
      exact Nat.le_trans h3 (Nat.div_mul_le_self n 4294967296)
theorem words_len_le {n k : Nat} (h : n < 4294967296 ^ k) : (words n).length ≤ k := by
  by_cases h0 : n = 0
  · rw [h0, words_0]; exact Nat.zero_le _
  · have h1 := words_top h0
    have h2 : 4294967296 ^ ((words n).length - 1) < 4294967296 ^ k := Nat.lt_of_le_of_lt h1 h
    have h3 := (Nat.pow_lt_pow_iff_right (by decide : 1 < 4294967296)).1 h2
    omega
theorem words_len_lt {m n : Nat} (h : (words m).length < (words n).length) : m < n := by
  have hn : n ≠ 0 := fun e => by rw [e, words_0] at h; simp at h
  have h1 := words_lt m
  have h2 := words_top hn
  have h3 : 4294967296 ^ (words m).length ≤ 4294967296 ^ ((words n).length - 1) := Nat.pow_le_pow_right (by decide) (by omega)
  omega
theorem words_last {n x : Nat} (h : (words n)[(words n).length - 1]? = some x) : x ≠ 0 := by
  intro e
  have hn : n ≠ 0 := fun e0 => by rw [e0, words_0] at h; simp at h
  have hl : (words n).length ≠ 0 := fun e0 => hn (words_len0.1 e0)
  have h1 := val_take h
  rw [show (words n).length - 1 + 1 = (words n).length by omega, List.take_length, val_words, e, Nat.mul_zero, Nat.add_zero] at h1
  have h2 := val_lt ((words_ok n).take ((words n).length - 1))
  rw [← h1, List.length_take, Nat.min_eq_left (by omega)] at h2
  have := words_top hn
  omega
/-- Two rows of one length, the same behind a place: as the words there. -/
theorem val_cmp {l m : List Nat} (hl : Wok l) (hm : Wok m) (he : l.length = m.length) {i x y : Nat} (hx : l[i]? = some x) (hy : m[i]? = some y) (hs : l.drop (i + 1) = m.drop (i + 1)) (h : x < y) : val l < val m := by
  have a1 := val_append (l.take (i + 1)) (l.drop (i + 1))
  have a2 := val_append (m.take (i + 1)) (m.drop (i + 1))
  rw [List.take_append_drop] at a1 a2
  rw [a1, a2, hs, List.length_take, List.length_take, he, val_take hx, val_take hy]
  have b1 := val_lt (hl.take i)
  have hi : i < l.length := by
    rcases Nat.lt_or_ge i l.length with h1 | h1
    · exact h1
    · rw [List.getElem?_eq_none h1] at hx; cases hx
  rw [List.length_take, Nat.min_eq_left (by omega)] at b1
  have h3 : 4294967296 ^ i * (x + 1) ≤ 4294967296 ^ i * y := Nat.mul_le_mul_left _ h
  rw [Nat.mul_add, Nat.mul_one] at h3
  omega
/-! Steps of loops over words. -/
theorem low_high (t : Nat) : t % 4294967296 + 4294967296 * (t / 4294967296) = t := Nat.mod_add_div t 4294967296
theorem pow_succ_mul (i c : Nat) : 4294967296 ^ (i + 1) * c = 4294967296 ^ i * (4294967296 * c) := by rw [Nat.pow_succ, Nat.mul_assoc]
/-- A word, and what is carried. -/
theorem carry_step {o : List Nat} {i c x S : Nat} (hi : o.length = i) (h : val o + 4294967296 ^ i * c = S) (t : Nat) (ht : t = c + x) :
    val (o ++ [t % 4294967296]) + 4294967296 ^ (i + 1) * (t / 4294967296) = S + 4294967296 ^ i * x := by
  rw [val_append, hi, pow_succ_mul, ← h]
  have e : val [t % 4294967296] = t % 4294967296 := by simp [val]
  rw [e, Nat.add_assoc, ← Nat.mul_add, low_high, ht, Nat.mul_add]
  omega
/-- A word less, and what is borrowed. -/
theorem borrow_step {o : List Nat} {i br x y S T : Nat} (hi : o.length = i) (h : val o + T = S + 4294967296 ^ i * br) (hx : x < 4294967296) (hy : y < 4294967296) (hb : br ≤ 1) :
    val (o ++ [(x + 4294967296 * 2 - br - y) % 4294967296]) + (T + 4294967296 ^ i * y) = (S + 4294967296 ^ i * x) + 4294967296 ^ (i + 1) * (if br + y ≤ x then 0 else 1) := by
  rw [val_append, hi, pow_succ_mul]
  obtain ⟨z, hz⟩ : ∃ z, z = (x + 4294967296 * 2 - br - y) % 4294967296 := ⟨_, rfl⟩
  rw [← hz]
  have e : val [z] = z := by simp [val]
  rw [e]
  obtain ⟨p, hp⟩ : ∃ p, p = 4294967296 ^ i := ⟨_, rfl⟩
  rw [← hp] at h ⊢
  by_cases hc : br + y ≤ x
  · rw [if_pos hc]
    have hz2 : z + br + y = x := by omega
    have h3 : p * z + p * br + p * y = p * x := by rw [← Nat.mul_add, ← Nat.mul_add, hz2]
    omega
  · rw [if_neg hc]
    have hz2 : z + br + y = x + 4294967296 := by omega
    have h3 : p * z + p * br + p * y = p * x + p * 4294967296 := by rw [← Nat.mul_add, ← Nat.mul_add, ← Nat.mul_add, hz2]
    omega
theorem val_drop {l : List Nat} {i x : Nat} (h : l[i]? = some x) : val (l.drop i) = x + 4294967296 * val (l.drop (i + 1)) := by
  have hi : i < l.length := by
    rcases Nat.lt_or_ge i l.length with h1 | h1
    · exact h1
    · rw [List.getElem?_eq_none h1] at h; cases h
  rw [List.drop_eq_getElem_cons hi, val]
  rw [List.getElem?_eq_getElem hi] at h
  rw [Option.some.inj h]
/-- A word of a quotient by one word. -/
theorem quo_step {A Q d r x : Nat} (hd : 0 < d) (hd2 : d ≤ 4294967296) (h : A = d * Q + r) (hr : r < d) (hx : x < 4294967296) :
    x + 4294967296 * A = d * ((r * 4294967296 + x) / d + 4294967296 * Q) + (r * 4294967296 + x) % d ∧ (r * 4294967296 + x) % d < d ∧ (r * 4294967296 + x) / d < 4294967296 := by
  have e := Nat.div_add_mod (r * 4294967296 + x) d
  refine ⟨?_, Nat.mod_lt _ hd, ?_⟩
  · rw [Nat.mul_add, h, Nat.mul_add, show d * (4294967296 * Q) = 4294967296 * (d * Q) by rw [← Nat.mul_assoc, Nat.mul_comm d, Nat.mul_assoc]]
    omega
  · rw [Nat.div_lt_iff_lt_mul hd, Nat.mul_comm]
    have : (r + 1) * 4294967296 ≤ d * 4294967296 := Nat.mul_le_mul_right _ hr
    omega
/-- The set word of a row of words. -/
theorem val_set {l : List Nat} {i x y : Nat} (h : l[i]? = some x) : val (l.set i y) + 4294967296 ^ i * x = val l + 4294967296 ^ i * y := by
  have hi : i < l.length := by
    rcases Nat.lt_or_ge i l.length with h1 | h1
    · exact h1
    · rw [List.getElem?_eq_none h1] at h; cases h
  have hx : l[i] = x := by rw [List.getElem?_eq_getElem hi] at h; exact Option.some.inj h
  have e1 : l = l.take i ++ x :: l.drop (i + 1) := by
    rw [← hx]
    rw [← List.drop_eq_getElem_cons hi, List.take_append_drop]
  have e2 : l.set i y = l.take i ++ y :: l.drop (i + 1) := by
    rw [List.set_eq_take_append_cons_drop, if_pos hi]
  have hl : (l.take i).length = i := by rw [List.length_take]; omega
  have a1 := val_append (l.take i) (x :: l.drop (i + 1))
  have a2 := val_append (l.take i) (y :: l.drop (i + 1))
  rw [← e1, hl] at a1
  rw [← e2, hl] at a2
  rw [a1, a2]
  simp only [val, Nat.mul_add]
  omega
/-- By a power of two, word by word. -/
def downL (s : Nat) : List Nat → List Nat
  | [] => []
  | [x] => [x / 2 ^ s]
  | x :: y :: l => (x + 4294967296 * y) / 2 ^ s % 4294967296 :: downL s (y :: l)
theorem downL_len (s : Nat) : ∀ l, (downL s l).length = l.length := by
  intro l
  induction l with
  | nil => rfl
  | cons x l ih =>
    cases l with
    | nil => rfl
    | cons y l => simp only [downL, List.length_cons] at ih ⊢; omega
theorem downL_val (s : Nat) (hs : s < 32) : ∀ l, Wok l → val (downL s l) = val l / 2 ^ s := by
  intro l
  induction l with
  | nil => intro _; simp [downL, val]
  | cons x l ih =>
    intro h
    cases l with
    | nil => simp [downL, val]
    | cons y l =>
      have h2 := ih h.tail
      rw [downL, val, h2]
      obtain ⟨p, hp⟩ : ∃ p, p = 2 ^ s := ⟨_, rfl⟩
      obtain ⟨m, hm⟩ : ∃ m, m = 2 ^ (32 - s) := ⟨_, rfl⟩
      have hpm : p * m = 4294967296 := by rw [hp, hm, ← Nat.pow_add, show s + (32 - s) = 32 by omega]
      have hp0 : 0 < p := by rw [hp]; exact Nat.pow_pos (by decide)
      rw [← hp]
      simp only [val]
      obtain ⟨V, hV⟩ : ∃ V, V = val l := ⟨_, rfl⟩
      rw [← hV]
      -- (x + B (y + B V)) / p = ((x + B y) / p) % B + B ((y + B V) / p)
      have e1 : x + 4294967296 * (y + 4294967296 * V) = (x + 4294967296 * y) + p * (m * 4294967296 * V) := by
        rw [← Nat.mul_assoc p, ← Nat.mul_assoc p, hpm, Nat.mul_add, Nat.mul_assoc]; omega
      rw [e1, Nat.add_mul_div_left _ _ hp0]
      have e2 : y + 4294967296 * V = y + p * (m * V) := by rw [← Nat.mul_assoc, hpm]
      rw [e2, Nat.add_mul_div_left _ _ hp0]
      have e3 : (x + 4294967296 * y) / p = x / p + m * y := by
        rw [← hpm, Nat.mul_assoc, Nat.add_mul_div_left _ _ hp0]
      have hx := h.head
      have e4 : x / p < m := by
        rw [Nat.div_lt_iff_lt_mul hp0, Nat.mul_comm, hpm]; exact hx
      have e5 : (x + 4294967296 * y) / p / 4294967296 = y / p := by
        rw [e3, ← hpm, Nat.mul_comm p m, ← Nat.div_div_eq_div_mul, Nat.add_mul_div_left _ _ (by rw [hm]; exact Nat.pow_pos (by decide)), Nat.div_eq_of_lt e4, Nat.zero_add]
      have e6 := Nat.mod_add_div ((x + 4294967296 * y) / p) 4294967296
      rw [e5] at e6
      rw [Nat.mul_add, ← Nat.mul_assoc 4294967296 m V, Nat.mul_comm 4294967296 m]
      omega
/-- By a power of two below, word by word: what stands, and what is carried. -/
theorem up_step {o : List Nat} {i c x S s : Nat} (hi : o.length = i) (h : val o + 4294967296 ^ i * c = S * 2 ^ s) (hc : c < 2 ^ s) (hs : s < 32) (hx : x < 4294967296) :
    val (o ++ [c + x * 2 ^ s % 4294967296]) + 4294967296 ^ (i + 1) * (x * 2 ^ s / 4294967296) = (S + 4294967296 ^ i * x) * 2 ^ s ∧ x * 2 ^ s / 4294967296 < 2 ^ s ∧ c + x * 2 ^ s % 4294967296 < 4294967296 ∧ c ||| x * 2 ^ s % 4294967296 = c + x * 2 ^ s % 4294967296 := by
  obtain ⟨t, ht⟩ : ∃ t, t = x * 2 ^ s := ⟨_, rfl⟩
  have hpm : (2 : Nat) ^ s * 2 ^ (32 - s) = 4294967296 := by rw [← Nat.pow_add, show s + (32 - s) = 32 by omega]
  have hm : t % 4294967296 = x % 2 ^ (32 - s) * 2 ^ s := by
    rw [ht, ← hpm, Nat.mul_comm (2 ^ s) (2 ^ (32 - s)), Nat.mul_mod_mul_right]
  have hp0 : 0 < 2 ^ s := Nat.pow_pos (by decide)
  have hlt : c + t % 4294967296 < 4294967296 := by
    have h1 : x % 2 ^ (32 - s) < 2 ^ (32 - s) := Nat.mod_lt _ (Nat.pow_pos (by decide))
    have h2 : (x % 2 ^ (32 - s) + 1) * 2 ^ s ≤ 2 ^ (32 - s) * 2 ^ s := Nat.mul_le_mul_right _ h1
    rw [Nat.add_mul, Nat.one_mul, Nat.mul_comm (2 ^ (32 - s)), hpm] at h2
    omega
  rw [← ht]
  refine ⟨?_, ?_, hlt, ?_⟩
  · rw [val_append, hi, pow_succ_mul, Nat.add_mul, ← h]
    have e : val [c + t % 4294967296] = c + t % 4294967296 := by simp [val]
    rw [e, show 4294967296 ^ i * x * 2 ^ s = 4294967296 ^ i * t by rw [ht, Nat.mul_assoc], Nat.add_assoc, Nat.add_assoc, ← Nat.mul_add, ← Nat.mul_add]
    have := low_high t
    rw [show c + t % 4294967296 + 4294967296 * (t / 4294967296) = c + t by omega]
  · rw [Nat.div_lt_iff_lt_mul (by decide), ht, Nat.mul_comm (2 ^ s)]
    exact Nat.mul_lt_mul_of_pos_right hx hp0
  · rw [hm, Nat.or_comm, Nat.mul_comm, ← Nat.two_pow_add_eq_or_of_lt hc]
    omega

end Big
end
section
open Go.RowKit
namespace Big
/-- Words in memory. -/
def Wd (w : World) (v : Value) (l : List Nat) : Prop :=
  (v = .slice none 0 0 ∧ l = []) ∨ ∃ g off cap, ∃ C : Array Value, v = .slice (some ⟨g, off, none⟩) l.length cap ∧ w.heap[g]? = some (.cells C 129 (0, 0)) ∧ l.length ≤ cap ∧ ∀ (i x : Nat), l[i]? = some x → C[off + i]? = some (.int .u32 x)
/-- A block of its own. -/
def Fresh (B : Nat) (v : Value) : Prop := ∀ g, v.ownBlock = some g → B ≤ g
theorem Fresh.nil (B : Nat) : Fresh B (.slice none 0 0) := fun g h => by cases h
theorem Wd.nil (w : World) : Wd w (.slice none 0 0) [] := .inl ⟨rfl, rfl⟩
theorem Wd.below {w w' : World} {v : Value} {l : List Nat} (h : Wd w v l) (b : Below w.heap.size w w') : Wd w' v l := by
  rcases h with h | ⟨g, off, cap, C, h1, h2, h3⟩
  · exact .inl h
  · exact .inr ⟨g, off, cap, C, h1, (b.block g (lt_of_block h2)).trans h2, h3⟩
theorem Wd.keep {w w' : World} {v : Value} {l : List Nat} {B : Nat} {S : List Nat} (h : Wd w v l) (k : Keeps B S w w') (hB : w.heap.size ≤ B) (hS : ∀ g, v.ownBlock = some g → g ∉ S) : Wd w' v l := by
  rcases h with h | ⟨g, off, cap, C, h1, h2, h3⟩
  · exact .inl h
  · refine .inr ⟨g, off, cap, C, h1, (k.block g (Nat.lt_of_lt_of_le (lt_of_block h2) hB) (hS g (by rw [h1]; rfl))).trans h2, h3⟩
/-- .. as a slice, with its cells. -/
theorem Wd.form {w : World} {v : Value} {l : List Nat} (h : Wd w v l) : ∃ a cap, v = .slice a l.length cap ∧ l.length ≤ cap ∧ (0 < l.length → ∃ g off, a = some ⟨g, off, none⟩ ∧ g < w.heap.size ∧ ∀ (i x : Nat), l[i]? = some x → w.cell? ⟨g, off + i, none⟩ = some (.int .u32 x)) := by
  rcases h with ⟨rfl, rfl⟩ | ⟨g, off, cap, C, h1, h2, h3, h4⟩
  · exact ⟨none, 0, rfl, Nat.le_refl _, fun h => by cases h⟩
  · refine ⟨some ⟨g, off, none⟩, cap, h1, h3, fun _ => ⟨g, off, rfl, lt_of_block h2, fun i x hx => ?_⟩⟩
    rw [cell_of_block h2]
    exact h4 i x hx
theorem Wd.take {w : World} {g off cap : Nat} {C : Array Value} {l : List Nat} (h2 : w.heap[g]? = some (.cells C 129 (0, 0))) (h3 : l.length ≤ cap) (h4 : ∀ (i x : Nat), l[i]? = some x → C[off + i]? = some (.int .u32 x)) (k : Nat) (hk : k ≤ l.length) : Wd w (.slice (some ⟨g, off, none⟩) k cap) (l.take k) := by
  refine .inr ⟨g, off, cap, C, by rw [List.length_take, Nat.min_eq_left hk], h2, by rw [List.length_take]; omega, fun i x hx => ?_⟩
  rw [List.getElem?_take] at hx
  split at hx
  · exact h4 i x hx
  · cases hx

def cellsU (L : List Nat) : Array Value := (L.map fun x : Nat => Value.int .u32 x).toArray
theorem cellsU_get (L : List Nat) (i : Nat) : (cellsU L)[i]? = (L[i]?).map fun x : Nat => Value.int .u32 x := by simp [cellsU]
theorem cellsU_size (L : List Nat) : (cellsU L).size = L.length := by simp [cellsU]
/-- A row of words. -/
def Ro (w : World) (g : Nat) (L : List Nat) : Prop := w.heap[g]? = some (.cells (cellsU L) 129 (0, 0))
theorem Ro.lt {w : World} {g : Nat} {L : List Nat} (h : Ro w g L) : g < w.heap.size := lt_of_block h
theorem Ro.set {w : World} {g : Nat} {L : List Nat} (h : Ro w g L) (i x : Nat) : Ro (w.setCell ⟨g, i, none⟩ (.int .u32 x)) g (L.set i x) := by
  have e : cellsU (L.set i x) = (cellsU L).setIfInBounds i (.int .u32 x) := by
    apply Array.ext_getElem?
    intro j
    rw [cellsU_get, Array.getElem?_setIfInBounds, List.getElem?_set, cellsU_size]
    by_cases h1 : i = j
    · subst h1
      rw [if_pos rfl, if_pos rfl]
      by_cases h2 : i < L.length
      · rw [if_pos h2, if_pos h2]; rfl
      · rw [if_neg h2, if_neg h2]; rfl
    · rw [if_neg h1, if_neg h1, cellsU_get]
  unfold Ro
  rw [e]
  exact set_of_block h i _
theorem Ro.cell {w : World} {g : Nat} {L : List Nat} (h : Ro w g L) {i x : Nat} (hx : L[i]? = some x) : w.cell? ⟨g, i, none⟩ = some (.int .u32 x) := by
  rw [cell_of_block h, cellsU_get, hx]; rfl
theorem Ro.free {w : World} {g : Nat} {L : List Nat} (h : Ro w g L) (i : Nat) : w.frozen? ⟨g, i, none⟩ = false := free_of_block h i
theorem Ro.wd {w : World} {g : Nat} {L : List Nat} (h : Ro w g L) {cap : Nat} (hc : L.length ≤ cap) : Wd w (.slice (some ⟨g, 0, none⟩) L.length cap) L :=
  .inr ⟨g, 0, cap, cellsU L, rfl, h, hc, fun i x hx => by rw [Nat.zero_add, cellsU_get, hx]; rfl⟩
theorem Ro.keep {w w' : World} {g : Nat} {L : List Nat} (h : Ro w g L) (b : Below w.heap.size w w') : Ro w' g L := (b.block g h.lt).trans h
theorem info32 : (Tryz.prog.info? 129).map (fun i => (i.zero, i.size, i.bytes)) = some (some (.int .u32 0), 1, 4) := by kernel_rfl
theorem info32s : (Tryz.prog.info? 129).map (·.size) = some 1 := by kernel_rfl
theorem made_words {w : World} {g B n : Nat} (h : w.ownsRow B 129 1 (.slice (some ⟨g, 0, none⟩) n n) n (madeCells (Value.int .u32 0).cells (n * 1)).toList) : Ro w g (List.replicate n 0) := by
  rcases h.2 with ⟨h0, -⟩ | ⟨k, cap, cur, he, hg, hb, h1, h2, h3, h4⟩
  · cases h0
  · simp only [Value.slice.injEq, Option.some.injEq, Addr.mk.injEq] at he
    obtain ⟨⟨rfl, -, -⟩, -, rfl⟩ := he
    rw [show (Value.int .u32 0).cells = #[Value.int .u32 0] from rfl, toList_madeCells_one, List.take_of_length_le (by rw [Array.length_toList, h3]; exact Nat.le_refl _), Nat.mul_one] at h4
    unfold Ro
    rw [hb]
    have e : cur = cellsU (List.replicate n 0) := by
      rw [← Array.toList_inj, h4]
      simp [cellsU]
    rw [e]
/-- A row of noughts is made. -/
theorem make_words {ops : Array Oper} {rest : List Oper} {o : Oper} {a : Act} {Q : Exit → Act → World → Prop} (w : World) (hg : o.guard = none) (l c : Operand) (hop : o.op = Op.makeSlice 72 l c)
    (L : Int) (n : Nat) (hl : a.eval l = .int .i64 L) (hc : a.eval c = .int .i64 L) (hL : L = (n : Int)) (hn : n ≤ 2199023255552)
    (hK : ∀ w1, Hid (Ro w1 w.heap.size (List.replicate n 0)) → Below w.heap.size w w1 → w.heap.size < w1.heap.size → wpList Tryz.prog ops Q rest (a.put o.dst (.slice (some ⟨w.heap.size, 0, none⟩) n n)) w1) :
    wpList Tryz.prog ops Q (o :: rest) a w := by
  obtain ⟨ti, hti, htz, hts, htb⟩ := info_parts info32
  refine wpList_make_full w hg l c 72 hop w.heap.size 129 ti _ 1 Tryz.underlying72 hti htz hts .i64 .i64 L L n hl hc hL hL (by rw [htb]; omega) (by unfold maxLen; omega) (Nat.le_refl _) (fun w1 hown hgrow => ?_)
  have r := made_words hown
  exact hK w1 r (Keeps.below ⟨hgrow.os, hgrow.tape, hgrow.output, hgrow.size, fun k hk _ => hgrow.block k hk (by simp)⟩) r.lt
theorem Fresh.own {B g n cap : Nat} (h : B ≤ g) : Fresh B (.slice (some ⟨g, 0, none⟩) n cap) := fun k hk => by
  simp only [Value.ownBlock, Option.some.injEq] at hk
  omega
theorem Fresh.of {B : Nat} {v v' : Value} (h : Fresh B v) (e : v'.ownBlock = v.ownBlock) : Fresh B v' := fun g hg => h g (by rw [← e]; exact hg)

/-- Some draws, nothing besides. -/
def Drawn (w w' : World) : Prop := ∃ k, w' = w.drewN k
theorem Drawn.more {w w' : World} (h : Drawn w w') (k : Nat) : Drawn w (w'.drewN k) := by
  obtain ⟨q, rfl⟩ := h
  exact ⟨q + k, World.drewN_drewN _ _ _⟩
end Big
theorem Keeps.drewN {B : Nat} {S : List Nat} {a w : World} (h : Keeps B S a w) (n : Nat) : Keeps B S a (w.drewN n) := ⟨h.os, h.tape, h.output, h.size, h.block⟩
namespace Big
theorem Drawn.refl (w : World) : Drawn w w := ⟨0, rfl⟩
theorem Drawn.below {w w' : World} (h : Drawn w w') : Below w.heap.size w w' := by
  obtain ⟨q, rfl⟩ := h
  exact (Keeps.refl w.heap.size [] w |>.drewN q).below
/-- How two numbers stand. -/
def cmpN (m n : Nat) : Int := if m < n then -1 else if n < m then 1 else 0
set_option maxRecDepth 100000 in
set_option maxHeartbeats 4000000 in
theorem btrim (v : Value) (l : List Nat) (w : World) (h : Wd w v l) (hl : Wok l) (hn : l.length ≤ 1099511627776) :
    Calls Tryz.prog 110 #[v] w fun e w' => ∃ v', e = .returned v' ∧ Wd w v' (words (val l)) ∧ v'.ownBlock = v.ownBlock ∧ w' = w := by
  rcases h with ⟨rfl, rfl⟩ | ⟨g, off, cap, C, rfl, h2, h3, h4⟩
  · rw [show words (val []) = [] from words_0]
    go_enter Tryz.func110, Tryz.ntmps110
    go_wp2_with fail
    go_loop [3] (fun s3 => s3 = .int .i64 0) (fun _ => 0)
    case atStart => exact rfl
    case round =>
      obtain rfl := hrel
      go_wp2_with fail
      go_ret
      exact ⟨_, rfl, Wd.nil _, rfl, rfl⟩
  · have H2 := hid h2
    have H4 := hid h4
    have hg := lt_of_block h2
    haveI : Has w g := ⟨hg⟩
    clear h2 h4
    go_enter Tryz.func110, Tryz.ntmps110
    go_wp2_with fail
    go_loop [3] (fun s3 => ∃ k : Nat, s3 = .int .i64 k ∧ k ≤ l.length ∧ Hid (∀ i, k ≤ i → ∀ x, l[i]? = some x → x = 0)) (fun s3 => (intOf s3).toNat)
    case atStart => exact ⟨l.length, rfl, Nat.le_refl _, hid (fun i hi x hx => by rw [List.getElem?_eq_none hi] at hx; cases hx)⟩
    case round =>
      obtain ⟨k, rfl, hk, h0⟩ := hrel
      have fin : Hid ((k = 0 ∨ ∃ x, l[k - 1]? = some x ∧ x ≠ 0) → Wd w (.slice (some ⟨g, off, none⟩) k cap) (words (val l))) := hid (fun hh => by
        have ht := words_cut hl h0.out hh
        rw [← ht]
        exact Wd.take H2.out h3 H4.out k hk)
      rcases Nat.eq_zero_or_pos k with rfl | hkp
      · go_wp2_with fail
        go_ret
        exact ⟨_, rfl, fin.out (.inl (by trivial)), rfl, rfl⟩
      · obtain ⟨j, rfl⟩ : ∃ j, k = j + 1 := ⟨k - 1, by omega⟩
        have hj : j < l.length := by omega
        have hx : l[j]? = some l[j] := List.getElem?_eq_getElem hj
        have hxB := hl.get hx
        have c := H4.out j _ hx
        obtain ⟨x, hxx⟩ : ∃ x, x = l[j] := ⟨_, rfl⟩
        rw [← hxx] at hx hxB c
        have cc : w.cell? ⟨g, off + j, none⟩ = some (.int .u32 x) := by rw [cell_of_block H2.out]; exact c
        have HX := hid hx
        have hjc : j < cap := by omega
        clear hx c hxx
        by_cases hz : x = 0
        · subst hz
          have h0' : Hid (∀ i, j ≤ i → ∀ x, l[i]? = some x → x = 0) := hid (fun i hi y hy => by
            rcases Nat.lt_or_eq_of_le hi with h | rfl
            · exact h0.out i h y hy
            · rw [HX.out] at hy; exact (Option.some.inj hy).symm)
          clear h0 fin
          go_wp2_with fail
          exact ⟨⟨j, by rfl, by omega, h0'⟩, by simp [intOf]⟩
        · have hz' : ((x : Int) == 0) = false := by simp; omega
          have hxp : 0 < x := by omega
          have F := hid (fin.out (.inr ⟨x, HX.out, hz⟩))
          clear h0 fin
          go_wp2_with fail
          go_ret
          exact ⟨_, rfl, F.out, rfl, rfl⟩
set_option maxRecDepth 100000 in
set_option maxHeartbeats 4000000 in
theorem bcopied (v : Value) (l : List Nat) (w : World) (h : Wd w v l) (hn : l.length ≤ 1099511627776) :
    Calls Tryz.prog 92 #[v] w fun e w' => ∃ g, e = .returned (.slice (some ⟨g, 0, none⟩) l.length l.length) ∧ Ro w' g l ∧ w.heap.size ≤ g ∧ Below w.heap.size w w' := by
  have hW := hid h
  obtain ⟨a, cap, rfl, hcap, hce⟩ := h.form
  have HC := hid hce
  clear h hce
  go_enter Tryz.func92, Tryz.ntmps92
  go_upto_region 2 with (at_make; refine make_words _ rfl _ _ rfl _ l.length rfl rfl rfl (by omega) ?_; intro w1 hro hb1 hlt1)
  obtain ⟨cs, hcs⟩ : ∃ cs : List Value, cs = l.map fun x : Nat => Value.int .u32 x := ⟨_, rfl⟩
  have hcl : cs.length = l.length := by rw [hcs, List.length_map]
  have hone : ∀ u ∈ cs, u.oneCell' = true := fun u hu => by
    rw [hcs] at hu
    obtain ⟨t, -, rfl⟩ := List.mem_map.1 hu
    rfl
  have hsrc : 0 < cs.length → (some ⟨w.heap.size, 0, none⟩ : Option Addr) = some ⟨w.heap.size, 0, none⟩ ∧ ∃ ad, a = some ad ∧ ∀ j u, cs[j]? = some u → w1.cell? (ad.add j) = some u := fun hp => by
    obtain ⟨g, off, rfl, hg, hx⟩ := HC.out (by omega)
    refine ⟨rfl, _, rfl, fun j u hu => ?_⟩
    rw [hcs, List.getElem?_map] at hu
    cases hlj : l[j]? with
    | none => rw [hlj] at hu; cases hu
    | some x =>
      rw [hlj] at hu
      obtain rfl := Option.some.inj hu
      have := hx j x hlj
      rw [show (⟨g, off, none⟩ : Addr).add j = ⟨g, off + j, none⟩ by unfold Addr.add; split <;> simp_all]
      rw [← this]
      exact World.cell?_of_block (w := w) (hb1.block g hg)
  have HCS := hid hcs
  have HSRC := hid hsrc
  clear hcs hsrc
  go_wp2_with (refine wpList_copy_splice (by rfl) _ _ 72 72 (by rfl) 129 Tryz.underlying72 info32s (some ⟨w.heap.size, 0, none⟩) a l.length l.length l.length cap (by rfl) (by rfl) w.heap.size 0 ((List.replicate l.length 0).map fun x : Nat => Value.int .u32 x) 129 hro.out cs (by rw [hcl]; exact (Nat.min_self _).symm) HSRC.out (by rw [hcl]; simp) hone w.heap.size w hb1 (Nat.le_refl _) ?_; intro w2 hro2 hb2)
  go_ret
  refine ⟨w.heap.size, rfl, ?_, Nat.le_refl _, hb2⟩
  have h5 := hro2.out
  rw [show splice ((List.replicate l.length 0).map fun x : Nat => Value.int .u32 x) 0 cs = l.map fun x : Nat => Value.int .u32 x by
    unfold splice
    rw [List.take_zero, List.nil_append, List.drop_eq_nil_of_le (by simp [hcl]), List.append_nil]
    exact HCS.out] at h5
  exact h5
set_option maxRecDepth 100000 in
set_option maxHeartbeats 4000000 in
theorem bfromUint (n : Nat) (hn : n < 18446744073709551616) (w : World) :
    Calls Tryz.prog 115 #[.int .u64 n] w fun e w' => ∃ v, e = .returned v ∧ Wd w' v (words n) ∧ Fresh w.heap.size v ∧ Below w.heap.size w w' := by
  have e1 : IntKind.u32.wrap (n : Int) = ((n % 4294967296 : Nat) : Int) := by rw [IntKind.wrap_u32]; omega
  have e2 : IntKind.u32.wrap ((n : Int) / 4294967296) = ((n / 4294967296 : Nat) : Int) := by rw [IntKind.wrap_u32]; omega
  have hv : val [n % 4294967296, n / 4294967296] = n := by simp [val]; omega
  have hok : Wok [n % 4294967296, n / 4294967296] := Wok.cons (Nat.mod_lt _ (by decide)) (Wok.cons (by omega) Wok.nil)
  generalize n % 4294967296 = lo at e1 hv hok
  generalize n / 4294967296 = hi at e2 hv hok
  have R1 : Hid (Ro (w.alloc (.cells #[.int .u32 lo, .int .u32 hi] 129)) w.heap.size [lo, hi]) := hid (by unfold Ro; simp only [block_at]; rfl)
  have HV := hid hv
  have OK := hid hok
  clear hv hok
  go_enter Tryz.func115, Tryz.ntmps115
  go_wp2_with fail
  refine (btrim _ [lo, hi] _ (R1.out.wd (cap := 2) (Nat.le_refl _)) OK.out (by simp)).mono ?_
  rintro e w' ⟨v, rfl, hw, hb, rfl⟩
  rw [HV.out] at hw
  have HW := hid hw
  clear hw
  go_wp2_with fail
  go_ret
  exact ⟨_, rfl, HW.out, (Fresh.own (Nat.le_refl _)).of hb, Below.alloc (Below.refl _ _) (Nat.le_refl _) _⟩
set_option maxRecDepth 100000 in
set_option maxHeartbeats 4000000 in
theorem bcmp (va vb : Value) (m n : Nat) (w : World) (ha : Wd w va (words m)) (hb : Wd w vb (words n)) (hm : (words m).length ≤ 1099511627776) (hn : (words n).length ≤ 1099511627776) :
    Calls Tryz.prog 119 #[va, vb] w fun e w' => e = .returned (.int .i64 (cmpN m n)) ∧ Drawn w w' := by
  have okm := words_ok m
  have okn := words_ok n
  have vm := val_words m
  have vn := val_words n
  have ltm := @words_len_lt m n
  have ltn := @words_len_lt n m
  obtain ⟨a, ca, rfl, hca, hce⟩ := ha.form
  obtain ⟨b, cb, rfl, hcb, hcf⟩ := hb.form
  clear ha hb
  generalize words m = l at okm vm ltm ltn hca hce hm ⊢
  generalize words n = k at okn vn ltm ltn hcb hcf hn ⊢
  have HA := hid hce
  have HB := hid hcf
  clear hce hcf
  obtain ⟨R, hR⟩ : ∃ R, R = cmpN m n := ⟨_, rfl⟩
  rw [← hR]
  unfold cmpN at hR
  have HR := hid hR
  clear hR
  by_cases hl : l.length = k.length
  · have hl' : ((l.length : Int) != (k.length : Int)) = false := by rw [hl]; simp
    have HL0 := hid hl
    clear hl
    go_enter Tryz.func119, Tryz.ntmps119
    go_wp2_with fail
    go_loopw [4, 5] (fun s4 s wr => ∃ j : Nat, s = .int .i64 ((j : Int) - 1) ∧ j ≤ l.length ∧ Hid (l.drop j = k.drop j) ∧ Hid (Drawn w wr)) (fun s4 s _ => (intOf s + 1).toNat)
    case atStart => exact ⟨l.length, by first | rfl | simp, Nat.le_refl _, hid (by rw [List.drop_length, HL0.out, List.drop_length]), hid ⟨0, rfl⟩⟩
    case round =>
      obtain ⟨j, rfl, hj, hd, hdr⟩ := hrel
      have hjk : j ≤ k.length := by have := HL0.out; omega
      rcases Nat.eq_zero_or_pos j with rfl | hjp
      · have heq : l = k := by have := hd.out; simpa using this
        go_wp2_with fail
        go_ret
        have : m = n := by rw [← vm, ← vn, heq]
        exact ⟨by rw [HR.out, if_neg (by omega), if_neg (by omega)]; rfl, hdr.out⟩
      · obtain ⟨i, rfl⟩ : ∃ i, j = i + 1 := ⟨j - 1, by omega⟩
        obtain ⟨g, off, rfl, hg, hx⟩ := HA.out (by omega)
        obtain ⟨g2, off2, rfl, hg2, hy⟩ := HB.out (by omega)
        have hik0 : i < k.length := by omega
        have h1 : l[i]? = some l[i] := List.getElem?_eq_getElem (by omega)
        have h2 : k[i]? = some k[i] := List.getElem?_eq_getElem (by omega)
        obtain ⟨x, hxx⟩ : ∃ x, x = l[i] := ⟨_, rfl⟩
        obtain ⟨y, hyy⟩ : ∃ y, y = k[i] := ⟨_, rfl⟩
        rw [← hxx] at h1
        rw [← hyy] at h2
        have c1 := hx i x h1
        have c2 := hy i y h2
        obtain ⟨q, rfl⟩ := hdr.out
        haveI : Has w g := ⟨hg⟩
        haveI : Has w g2 := ⟨hg2⟩
        have H1 := hid h1
        have H2 := hid h2
        have hi0 : (0 : Int) ≤ (i : Int) := by omega
        have hil : (i : Int) < (l.length : Int) := by omega
        have hik : (i : Int) < (k.length : Int) := by omega
        have e1 : ((i + 1 : Nat) : Int) - 1 = (i : Int) := by omega
        clear hxx hyy hx hy h1 h2
        rcases Nat.lt_trichotomy x y with h | h | h
        · have h' : (x : Int) < (y : Int) := by omega
          have HL := hid (val_cmp okm okn HL0.out H1.out H2.out hd.out h)
          go_wp2_with fail
          go_quiet (fail)
          go_wp2_with fail
          go_ret
          have := HL.out
          rw [vm, vn] at this
          exact ⟨by rw [HR.out, if_pos this]; rfl, by first | exact ⟨_, rfl⟩ | (repeat' (first | exact hdr.out | (refine Drawn.more ?_ _)))⟩
        · subst h
          have hd' : Hid (l.drop i = k.drop i) := hid (by
            have a1 := List.drop_eq_getElem_cons (show i < l.length by omega)
            have a2 := List.drop_eq_getElem_cons (show i < k.length by omega)
            have b1 := H1.out
            have b2 := H2.out
            rw [List.getElem?_eq_getElem (by omega)] at b1 b2
            rw [a1, a2, hd.out, Option.some.inj b1, Option.some.inj b2])
          have hn1 : ¬ (x : Int) < (x : Int) := by omega
          have hn2 : ¬ (x : Int) > (x : Int) := by omega
          go_wp2_with fail
          go_quiet (fail)
          go_wp2_with fail
          go_quiet (fail)
          go_wp2_with fail
          go_roundw
          case rel => exact ⟨i, by first | rfl | simp, by omega, hd', hid (by first | exact ⟨_, rfl⟩ | (repeat' (first | exact hdr.out | (refine Drawn.more ?_ _))))⟩
          case measure => simp [intOf]
        · have h' : (x : Int) > (y : Int) := by omega
          have h'' : ¬ (x : Int) < (y : Int) := by omega
          have HL := hid (val_cmp okn okm HL0.out.symm H2.out H1.out hd.out.symm h)
          go_wp2_with fail
          go_quiet (fail)
          go_wp2_with fail
          go_quiet (fail)
          go_wp2_with fail
          go_ret
          have := HL.out
          rw [vm, vn] at this
          exact ⟨by rw [HR.out, if_neg (by omega), if_pos this]; rfl, by first | exact ⟨_, rfl⟩ | (repeat' (first | exact hdr.out | (refine Drawn.more ?_ _)))⟩
  · have hl' : ((l.length : Int) != (k.length : Int)) = true := by simp; omega
    rcases Nat.lt_or_gt_of_ne hl with h | h
    · have h' : (l.length : Int) < (k.length : Int) := by omega
      have := ltm h
      have HV := hid this
      clear this ltm ltn
      go_enter Tryz.func119, Tryz.ntmps119
      go_wp2_with fail
      go_ret
      exact ⟨by rw [HR.out, if_pos HV.out]; rfl, ⟨0, rfl⟩⟩
    · have h' : ¬ (l.length : Int) < (k.length : Int) := by omega
      have := ltn h
      have HV := hid this
      clear this ltm ltn
      go_enter Tryz.func119, Tryz.ntmps119
      go_wp2_with fail
      go_ret
      have := HV.out
      exact ⟨by rw [HR.out, if_neg (by omega), if_pos this]; rfl, ⟨0, rfl⟩⟩
end Big
end
end Go.Proofs.YtcoillcppmibgaaGreatDoor
