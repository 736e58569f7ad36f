/- The checks of lists and the readers of saves, of the given program. -/
import Derived.Test.YtnagagcgmfkjjaaGreatDoorN
set_option linter.unusedSimpArgs false
set_option linter.unusedVariables false
namespace Go.Proofs.YtnagagcgmfkjjaaGreatDoor
open Go.RowKit

def firstBad : List Int → Int
  | [] => 0
  | c :: r => if c = 0 then firstBad r else c
def elChkS (x : El) : Int := elChk x.1 x.2.1.1 x.2.1.2 x.2.2.1.1 x.2.2.1.2 x.2.2.2
def flowChk (l : List El) : Int := if 256 < l.length then 7 else firstBad (l.map elChkS)
def whChkS (x : Wh) : Int := if cwithin x.1.1 x.1.2 maxReal && fwithin x.2 maxReal then 0 else 5
def whirlChk (l : List Wh) : Int := if 4096 < l.length then 4 else firstBad (l.map whChkS)
theorem own_form {w : World} {B0 E size n : Nat} {sv : Value} {xs : List Value} (h : w.ownsRow B0 E size sv n xs) : ∃ a cap, sv = .slice a n cap ∧ (0 < n → ∃ g, a = some ⟨g, 0, none⟩ ∧ ∀ i, i < xs.length → w.cell? ⟨g, i, none⟩ = xs[i]?) := by
  rcases h.2 with ⟨rfl, rfl⟩ | ⟨g, cap, cur, rfl, hg, hb, h1, h2, h3, h4⟩
  · exact ⟨none, 0, rfl, fun h => by omega⟩
  · refine ⟨some ⟨g, 0, none⟩, cap, rfl, fun _ => ⟨g, rfl, fun i hi => ?_⟩⟩
    rw [cell_of_block hb]
    have hx := h.1
    rw [← h4, List.getElem?_take_of_lt (by omega)]
    simp
theorem flat_at {α : Type} (f : α → List Value) (m : Nat) (hf : ∀ x, (f x).length = m) : ∀ (l : List α) (k j : Nat) (x : α), l[k]? = some x → j < m → (l.flatMap f)[k * m + j]? = (f x)[j]? := by
  intro l
  induction l with
  | nil => intro k j x h; simp at h
  | cons y l ih =>
    intro k j x h hj
    cases k with
    | zero =>
      simp at h
      subst h
      rw [List.flatMap_cons, List.getElem?_append_left (by rw [hf]; omega)]
      simp
    | succ k =>
      rw [List.flatMap_cons, List.getElem?_append_right (by rw [hf, Nat.succ_mul]; omega), hf, show (k + 1) * m + j - m = k * m + j by rw [Nat.succ_mul]; omega]
      exact ih k j x (by simpa using h) hj
theorem firstBad_append (a b : List Int) (h : ∀ c ∈ a, c = 0) : firstBad (a ++ b) = firstBad b := by
  induction a with
  | nil => rfl
  | cons c a ih =>
    rw [List.cons_append, firstBad, if_pos (h c (by simp))]
    exact ih (fun x hx => h x (by simp [hx]))
theorem firstBad_split (l : List Int) (k : Nat) (c : Int) (hk : l[k]? = some c) (h : ∀ j, j < k → l[j]? = some 0) : firstBad l = if c = 0 then firstBad (l.drop (k + 1)) else c := by
  have hlt : k < l.length := by
    rcases Nat.lt_or_ge k l.length with h | h
    · exact h
    · rw [List.getElem?_eq_none h] at hk; cases hk
  have e : l = l.take k ++ c :: l.drop (k + 1) := by
    have := List.getElem?_eq_some_iff.1 hk
    obtain ⟨h1, h2⟩ := this
    rw [← h2, List.getElem_cons_drop, List.take_append_drop]
  rw [e, firstBad_append]
  · rw [firstBad, ← e]
  · intro x hx
    obtain ⟨j, hj, rfl⟩ := List.getElem_of_mem hx
    rw [List.getElem_take]
    have hj' : j < k := by simp at hj; omega
    have := h j hj'
    rw [List.getElem?_eq_getElem (by omega)] at this
    exact Option.some.inj this
theorem firstBad_all (l : List Int) (h : ∀ j, j < l.length → l[j]? = some 0) : firstBad l = 0 := by
  have := firstBad_append l [] (fun c hc => by
    obtain ⟨j, hj, rfl⟩ := List.getElem_of_mem hc
    have := h j hj
    rw [List.getElem?_eq_getElem hj] at this
    exact Option.some.inj this)
  rw [List.append_nil] at this
  rw [this]; rfl
/-- The bits are 64. -/
def fits (n : Nat) : Prop := n < 18446744073709551616
set_option maxRecDepth 100000 in
set_option maxHeartbeats 8000000 in
theorem flow_check (l : List El) (hp : ∀ x ∈ l, fits x.2.2.2) (B0 : Nat) (sv : Value) (w : World) (ho : w.ownsRow B0 56 4 sv l.length (l.flatMap elCells)) (hn : l.length ≤ 70000) :
    Calls Tryz.prog 32 #[.agg #[sv]] w fun e w' => e = .returned (.int .i64 (flowChk l)) ∧ Below w.heap.size w w' := by
  obtain ⟨a, cap, rfl, hcells⟩ := own_form ho
  have OWN := hid ho
  clear ho
  have HC := hid hcells
  clear hcells
  unfold flowChk
  by_cases hlen : 256 < l.length
  · rw [if_pos hlen]
    go_enter Tryz.func32, Tryz.ntmps32
    go_wp2_with fail
    go_ret
    exact ⟨rfl, Below.alloc (Below.refl _ _) (Nat.le_refl _) _⟩
  · rw [if_neg hlen]
    obtain ⟨Q, hQ⟩ : ∃ Q, Q = firstBad (l.map elChkS) := ⟨_, rfl⟩
    rw [← hQ]
    have HQ := hid hQ
    clear hQ
    go_enter Tryz.func32, Tryz.ntmps32
    go_wp2_with fail
    go_loopw [13] (fun t wr => ∃ k : Nat, t = .int .i64 k ∧ k ≤ l.length ∧ Below w.heap.size w wr ∧ Hid (∀ j, j < k → (l.map elChkS)[j]? = some 0)) (fun t _ => l.length - (intOf t).toNat)
    case atStart => exact ⟨0, rfl, Nat.zero_le _, Below.alloc (Below.refl _ _) (Nat.le_refl _) _, hid (fun j hj => by omega)⟩
    case round =>
      obtain ⟨k, rfl, hk, hb, hall⟩ := hrel
      by_cases hkn : k < l.length
      · obtain ⟨g, rfl, hce⟩ := HC.out (by omega)
        have hx : l[k]? = some l[k] := List.getElem?_eq_getElem hkn
        have hpx := hp l[k] (List.getElem_mem hkn)
        obtain ⟨x, hxx⟩ : ∃ x, x = l[k] := ⟨_, rfl⟩
        rw [← hxx] at hx hpx
        have hlenx : (l.flatMap elCells).length = 4 * l.length := by rw [OWN.out.1, Nat.mul_comm]
        have hcw : ∀ j, j < 4 → wr.cell? ⟨g, k * 4 + j, none⟩ = (elCells x)[j]? := fun j hj => by
          have h1 := hce (k * 4 + j) (by rw [hlenx]; omega)
          rw [flat_at elCells 4 (fun _ => rfl) l k j x hx hj] at h1
          rw [← h1]
          exact (Keeps.of_below (S := []) hb).cell (q := ⟨g, k * 4 + j, none⟩) (World.block_lt_of_cell? _ _ (h1.trans (List.getElem?_eq_getElem (by exact hj)))) (by simp)
        have c0 : wr.cell? ⟨g, k * 4, none⟩ = some (.int .u8 x.1) := hcw 0 (by omega)
        have c1 : wr.cell? ⟨g, k * 4 + 1, none⟩ = some (.complex .f64 x.2.1.1 x.2.1.2) := hcw 1 (by omega)
        have c2 : wr.cell? ⟨g, k * 4 + 2, none⟩ = some (.complex .f64 x.2.2.1.1 x.2.2.1.2) := hcw 2 (by omega)
        have c3 : wr.cell? ⟨g, k * 4 + 3, none⟩ = some (.float .f64 x.2.2.2) := hcw 3 (by omega)
        have hglt := World.block_lt_of_cell? _ _ c0
        haveI : Has wr g := ⟨hglt⟩
        clear hcw hce hxx
        have hsz := hb.size
        have HB := hid hb
        have hmk : (l.map elChkS)[k]? = some (elChkS x) := by rw [List.getElem?_map, hx]; rfl
        by_cases hz : elChkS x = 0
        · have hall' : Hid (∀ j, j < k + 1 → (l.map elChkS)[j]? = some 0) := hid (fun j hj => by
            rcases Nat.lt_or_eq_of_le (Nat.le_of_lt_succ hj) with h | rfl
            · exact hall.out j h
            · rw [hmk, hz])
          clear hall hmk hx hb
          go_wp2_with fail
          refine (elcheck_any x.1 x.2.1.1 x.2.1.2 x.2.2.1.1 x.2.2.1.2 x.2.2.2 hpx _).mono ?_
          rintro e w' ⟨rfl, hb2⟩
          rw [show elChk x.1 x.2.1.1 x.2.1.2 x.2.2.1.1 x.2.2.1.2 x.2.2.2 = 0 from hz]
          go_wp2_with fail
          go_roundw
          case rel => exact ⟨k + 1, by rfl, by omega, HB.out.trans ((Below.alloc (Below.refl _ _) (Nat.le_refl _) _ |>.trans (hb2.mono (by simp))).mono hsz), hall'⟩
          case measure => simp [intOf]; omega
        · have hq := firstBad_split (l.map elChkS) k _ hmk hall.out
          rw [if_neg hz, ← HQ.out] at hq
          have hz' : (elChk x.1 x.2.1.1 x.2.1.2 x.2.2.1.1 x.2.2.1.2 x.2.2.2 != 0) = true := by simpa [elChkS] using hz
          have HQ2 := hid hq
          clear hall hmk hx hb hq
          go_wp2_with fail
          refine (elcheck_any x.1 x.2.1.1 x.2.1.2 x.2.2.1.1 x.2.2.1.2 x.2.2.2 hpx _).mono ?_
          rintro e w' ⟨rfl, hb2⟩
          go_wp2_with fail
          go_ret
          exact ⟨by rw [HQ2.out]; rfl, HB.out.trans ((Below.alloc (Below.refl _ _) (Nat.le_refl _) _ |>.trans (hb2.mono (by simp))).mono hsz)⟩
      · obtain rfl : k = l.length := by omega
        have hfin := firstBad_all (l.map elChkS) (fun j hj => hall.out j (by simpa using hj))
        have HF := hid hfin
        clear hfin hall
        go_wp2_with fail
        go_ret
        exact ⟨by rw [HQ.out, HF.out]; rfl, hb⟩
set_option maxRecDepth 100000 in
set_option maxHeartbeats 8000000 in
theorem whirl_check (l : List Wh) (B0 : Nat) (sv : Value) (w : World) (ho : w.ownsRow B0 60 2 sv l.length (l.flatMap whCells)) (hn : l.length ≤ 70000) :
    Calls Tryz.prog 36 #[sv] w fun e w' => e = .returned (.int .i64 (whirlChk l)) ∧ Below w.heap.size w w' := by
  obtain ⟨a, cap, rfl, hcells⟩ := own_form ho
  have OWN := hid ho
  clear ho
  have HC := hid hcells
  clear hcells
  unfold whirlChk
  by_cases hlen : 4096 < l.length
  · rw [if_pos hlen]
    go_enter Tryz.func36, Tryz.ntmps36
    go_wp2_with fail
    go_ret
    exact ⟨rfl, Below.refl _ _⟩
  · rw [if_neg hlen]
    obtain ⟨Q, hQ⟩ : ∃ Q, Q = firstBad (l.map whChkS) := ⟨_, rfl⟩
    rw [← hQ]
    have HQ := hid hQ
    clear hQ
    go_enter Tryz.func36, Tryz.ntmps36
    go_wp2_with fail
    go_loopw [10] (fun t wr => ∃ k : Nat, t = .int .i64 k ∧ k ≤ l.length ∧ Below w.heap.size w wr ∧ Hid (∀ j, j < k → (l.map whChkS)[j]? = some 0)) (fun t _ => l.length - (intOf t).toNat)
    case atStart => exact ⟨0, rfl, Nat.zero_le _, Below.refl _ _, hid (fun j hj => by omega)⟩
    case round =>
      obtain ⟨k, rfl, hk, hb, hall⟩ := hrel
      by_cases hkn : k < l.length
      · obtain ⟨g, rfl, hce⟩ := HC.out (by omega)
        have hx : l[k]? = some l[k] := List.getElem?_eq_getElem hkn
        obtain ⟨x, hxx⟩ : ∃ x, x = l[k] := ⟨_, rfl⟩
        rw [← hxx] at hx
        have hlenx : (l.flatMap whCells).length = 2 * l.length := by rw [OWN.out.1, Nat.mul_comm]
        have hcw : ∀ j, j < 2 → wr.cell? ⟨g, k * 2 + j, none⟩ = (whCells x)[j]? := fun j hj => by
          have h1 := hce (k * 2 + j) (by rw [hlenx]; omega)
          rw [flat_at whCells 2 (fun _ => rfl) l k j x hx hj] at h1
          rw [← h1]
          exact (Keeps.of_below (S := []) hb).cell (q := ⟨g, k * 2 + j, none⟩) (World.block_lt_of_cell? _ _ (h1.trans (List.getElem?_eq_getElem (by exact hj)))) (by simp)
        have c0 : wr.cell? ⟨g, k * 2, none⟩ = some (.complex .f64 x.1.1 x.1.2) := hcw 0 (by omega)
        have c1 : wr.cell? ⟨g, k * 2 + 1, none⟩ = some (.float .f64 x.2) := hcw 1 (by omega)
        have hglt := World.block_lt_of_cell? _ _ c0
        haveI : Has wr g := ⟨hglt⟩
        clear hcw hce hxx
        have hsz := hb.size
        have HB := hid hb
        have hmk : (l.map whChkS)[k]? = some (whChkS x) := by rw [List.getElem?_map, hx]; rfl
        cases hA : cwithin x.1.1 x.1.2 maxReal
        · have hA' : cwithin x.1.1 x.1.2 4787326403894837248 = false := hA
          have hB' : True := trivial
          cases hB : fwithin x.2 maxReal
          all_goals
            have hz : whChkS x = 5 := by unfold whChkS; rw [hA, hB]; rfl
            have hq := firstBad_split (l.map whChkS) k _ hmk hall.out
            rw [hz, if_neg (by decide), ← HQ.out] at hq
            have HQ2 := hid hq
            clear hall hmk hx hb hq
            go_wp2_with (first | (go_at_call 65; ((with_reducible refine (pwithin_any _ _ _ _).mono ?_); rintro e w' ⟨rfl, rfl⟩; rw [hA'])) | (go_at_call 66; ((with_reducible refine (within_any _ _ _).mono ?_); rintro e w' ⟨rfl, rfl⟩; rw [hB'])))
            go_ret
            exact ⟨by rw [HQ2.out]; rfl, HB.out.trans ((Below.alloc (Below.refl _ _) (Nat.le_refl _) _).mono hsz)⟩
        · have hA' : cwithin x.1.1 x.1.2 4787326403894837248 = true := hA
          cases hB : fwithin x.2 maxReal
          · have hB' : fwithin x.2 4787326403894837248 = false := hB
            have hz : whChkS x = 5 := by unfold whChkS; rw [hA, hB]; rfl
            have hq := firstBad_split (l.map whChkS) k _ hmk hall.out
            rw [hz, if_neg (by decide), ← HQ.out] at hq
            have HQ2 := hid hq
            clear hall hmk hx hb hq
            go_wp2_with (first | (go_at_call 65; ((with_reducible refine (pwithin_any _ _ _ _).mono ?_); rintro e w' ⟨rfl, rfl⟩; rw [hA'])) | (go_at_call 66; ((with_reducible refine (within_any _ _ _).mono ?_); rintro e w' ⟨rfl, rfl⟩; rw [hB'])))
            go_ret
            exact ⟨by rw [HQ2.out]; rfl, HB.out.trans ((Below.alloc (Below.refl _ _) (Nat.le_refl _) _).mono hsz)⟩
          · have hB' : fwithin x.2 4787326403894837248 = true := hB
            have hz : whChkS x = 0 := by unfold whChkS; rw [hA, hB]; rfl
            have hall' : Hid (∀ j, j < k + 1 → (l.map whChkS)[j]? = some 0) := hid (fun j hj => by
              rcases Nat.lt_or_eq_of_le (Nat.le_of_lt_succ hj) with h | rfl
              · exact hall.out j h
              · rw [hmk, hz])
            clear hall hmk hx hb
            go_wp2_with (first | (go_at_call 65; ((with_reducible refine (pwithin_any _ _ _ _).mono ?_); rintro e w' ⟨rfl, rfl⟩; rw [hA'])) | (go_at_call 66; ((with_reducible refine (within_any _ _ _).mono ?_); rintro e w' ⟨rfl, rfl⟩; rw [hB'])))
            go_roundw
            case rel => exact ⟨k + 1, by rfl, by omega, HB.out.trans ((Below.alloc (Below.refl _ _) (Nat.le_refl _) _).mono hsz), hall'⟩
            case measure => simp [intOf]; omega
      · obtain rfl : k = l.length := by omega
        have hfin := firstBad_all (l.map whChkS) (fun j hj => hall.out j (by simpa using hj))
        have HF := hid hfin
        clear hfin hall
        go_wp2_with fail
        go_ret
        exact ⟨by rw [HQ.out, HF.out]; rfl, hb⟩
end Go.Proofs.YtnagagcgmfkjjaaGreatDoor
