/- HouseCrowd returns true for every list of turns: the given card. Conditions: none beyond the statement's own. -/
import Derived.Test.YtmjpfoninpbgiaaGreatDoorC08
import Derived.OwnWalk
import Derived.Test.YtmjpfoninpbgiaaGreatDoorRows
import Derived.ProofKit
import Derived.ChangeSame
import Derived.ChangeVars
import Derived.JoinedOf
import Derived.RowKit
import Derived.RowKitTokens
import Derived.LaidLaws
import Derived.LaidHandle
import Derived.Stop.Joined
import Derived.Stop.LaidErr
import Derived.Lay
import Derived.Lib.LaidTab
import Derived.Test.YtmjpfoninpbgiaaGreatDoorTie
import Derived.Test.YtmjpfoninpbgiaaGreatDoorCards
import Derived.SevenTiedAt
import Derived.OpenShut
import Derived.Below
import Derived.ChangeMaps5
import Derived.Carry
import Derived.Deep.DeepHandedRow
import Derived.ReadAgain
import Derived.Deep.Slices
import Derived.RowKit3
import Derived.ChangeSlices
import Derived.Lib.LaidU8
set_option linter.unusedSimpArgs false
set_option linter.unusedVariables false
namespace Go.Proofs.YtmjpfoninpbgiaaGreatDoor
section
open Go.RowKit
open Go.Maps Go.ChangeMaps
/-- A whole number as a float. -/
abbrev flI (k : Nat) : Nat := floatOfInt .f64 (k : Int)
/-- A crowd's name. -/
def nlB (n m : Nat) : ByteArray := (⟨#[120]⟩ ++ Utf8.encode (97 + (n : Int))) ++ Utf8.encode (97 + (m : Int))
def nlL (n m : Nat) : List UInt8 := [120, UInt8.ofNat (97 + n), UInt8.ofNat (97 + m)]
theorem enc_small (n : Nat) (h : n < 8) : Utf8.encode (97 + (n : Int)) = ⟨#[UInt8.ofNat (97 + n)]⟩ := by
  have H : ∀ k : Fin 8, Utf8.encode (97 + (k.1 : Int)) = ⟨#[UInt8.ofNat (97 + k.1)]⟩ := by decide +kernel
  exact H ⟨n, h⟩
theorem nlB_list {n m : Nat} (hn : n < 8) (hm : m < 8) : (nlB n m).data.toList = nlL n m := by
  unfold nlB
  rw [enc_small n hn, enc_small m hm]
  rfl
theorem nlB_size {n m : Nat} (hn : n < 8) (hm : m < 8) : (nlB n m).size = 3 := by
  exact bytes_len _ _ (nlB_list hn hm)
theorem nlB_fit {n m : Nat} (hn : n < 8) (hm : m < 8) : fitL (nlB n m).data.toList = true := by
  rw [nlB_list hn hm]
  have H : ∀ (k j : Fin 8), fitL (nlL k.1 j.1) = true := by decide +kernel
  exact H ⟨n, hn⟩ ⟨m, hm⟩
theorem nlL_inj {n m n' m' : Nat} (hn : n < 8) (hm : m < 8) (hn' : n' < 8) (hm' : m' < 8) : nlL n m = nlL n' m' ↔ n = n' ∧ m = m' := by
  have H : ∀ (k j k' j' : Fin 8), nlL k.1 j.1 = nlL k'.1 j'.1 → k.1 = k'.1 ∧ j.1 = j'.1 := by decide +kernel
  refine ⟨fun h => H ⟨n, hn⟩ ⟨m, hm⟩ ⟨n', hn'⟩ ⟨m', hm'⟩ h, ?_⟩
  rintro ⟨rfl, rfl⟩
  rfl
/-- The last strength of a name. -/
def lastv (h m : Nat) : Nat := h - 1 - (h - 1 - m) % 8
def stv (h n m : Nat) : Option (Nat × Nat) := if m < h then some (flI n, flI (lastv h m)) else none
def total : List Nat → Nat
  | [] => 0
  | c :: r => min 8 c + total r
theorem total_set : ∀ (l : List Nat) (i : Nat) (h : i < l.length), total (l.set i (l[i] + 1)) = total l + (if l[i] < 8 then 1 else 0)
  | c :: r, 0, _ => by
    simp only [List.set_cons_zero, total, List.getElem_cons_zero]
    split <;> omega
  | c :: r, i + 1, h => by
    simp only [List.set_cons_succ, total, List.getElem_cons_succ]
    have := total_set r i (by simpa using h)
    rw [this]
    omega
theorem total_le : ∀ l : List Nat, total l ≤ 8 * l.length
  | [] => by simp [total]
  | c :: r => by
    have := total_le r
    simp only [total, List.length_cons]
    omega
theorem total_lt : ∀ (l : List Nat) (i : Nat) (h : i < l.length), l[i] < 8 → total l < 8 * l.length
  | c :: r, 0, _, h8 => by
    have := total_le r
    simp only [total, List.length_cons, List.getElem_cons_zero] at *
    omega
  | c :: r, i + 1, h, h8 => by
    have := total_lt r i (by simpa using h) (by simpa using h8)
    simp only [total, List.length_cons] at *
    omega
/-- What a crowd has put. -/
def Crd (F : List UInt8 → Option (Nat × Nat)) (cnt : List Nat) : Prop := ∀ n m, n < 8 → m < 8 → F (nlL n m) = stv (cnt.getD n 0) n m
theorem crd_put {F : List UInt8 → Option (Nat × Nat)} {cnt : List Nat} (h : Crd F cnt) (hl : cnt.length = 8) {i c : Nat} (hi : i < 8) (hc : cnt.getD i 0 = c) :
    Crd (fun q => if q = nlL i (c % 8) then some (flI i, flI c) else F q) (cnt.set i (c + 1)) := by
  intro n m hn hm
  have hk : c % 8 < 8 := Nat.mod_lt _ (by decide)
  show (if nlL n m = nlL i (c % 8) then _ else _) = _
  rw [h n m hn hm]
  simp only [nlL_inj hn hm hi hk]
  have hg : (cnt.set i (c + 1)).getD n 0 = if i = n then c + 1 else cnt.getD n 0 := by
    simp only [List.getD_eq_getElem?_getD, List.getElem?_set]
    split
    · rename_i e
      rw [if_pos (by omega)]
      rfl
    · rfl
  rw [hg]
  by_cases e : i = n
  · subst e
    rw [if_pos rfl, hc]
    by_cases e2 : m = c % 8
    · subst e2
      rw [if_pos ⟨rfl, rfl⟩]
      unfold stv lastv
      rw [if_pos (by omega), show c + 1 - 1 - (c + 1 - 1 - c % 8) % 8 = c by omega]
    · rw [if_neg (fun h => e2 h.2)]
      unfold stv lastv
      by_cases hlt : m < c
      · rw [if_pos hlt, if_pos (by omega), show c + 1 - 1 - (c + 1 - 1 - m) % 8 = c - 1 - (c - 1 - m) % 8 by omega]
      · rw [if_neg hlt, if_neg (by omega)]
  · rw [if_neg (fun h => e h.1.symm), if_neg e]
theorem flI_wit (k : Nat) (h : k ≤ 200) : (flI k < 18446744073709551616) ∧ witB (flI k) = true := by
  have H : ∀ k : Fin 201, (flI k.1 < 18446744073709551616) ∧ witB (flI k.1) = true := by decide +kernel
  exact H ⟨k, by omega⟩
theorem flI_ok {n k : Nat} (hn : n ≤ 200) (hk : k ≤ 200) : OkS (flI n, flI k) := ⟨⟨(flI_wit n hn).1, (flI_wit k hk).1⟩, (flI_wit n hn).2, (flI_wit k hk).2⟩
theorem flI_eq (k : Nat) (h : k ≤ 200) : (FloatKind.f64.format.order (flI k) (flI k) == some Ordering.eq) = true := by
  have H : ∀ k : Fin 201, (FloatKind.f64.format.order (flI k.1) (flI k.1) == some Ordering.eq) = true := by decide +kernel
  exact H ⟨k, by omega⟩
theorem lastv_le (h m : Nat) (hh : h ≤ 200) : lastv h m ≤ 200 := by unfold lastv; omega
end
section
open Go.RowKit
open Go.Maps Go.ChangeMaps
theorem mp_made (w : World) : Mp (w.alloc (.map #[] 0)) w.heap.size 0 (.map []) (fun _ => none) := ⟨World.ownsMap_made w _ _ _, fun k => rfl, fun k s h => by cases h⟩
/-- The crowd's memory. -/
structure Cr (w : World) (h m b : Nat) (cnt : List Nat) (k : Nat) (wx : World) : Prop where
  house : Bk wx h [.bool true, .int .i32 0, .int .u32 0, .map (some m)] 51
  had : Bk wx b (cnt.map fun (c : Nat) => Value.int .i64 (c : Int)) 26
  mp : ∃ D F, Mp wx m k D F ∧ Crd F cnt ∧ Maps.size D = total cnt
  len : cnt.length = 8
  le : ∀ (i c : Nat), cnt[i]? = some c → c ≤ k
  gr : Below w.heap.size w wx
theorem Cr.below {w : World} {h m b k : Nat} {cnt : List Nat} {wx wy : World} (c : Cr w h m b cnt k wx) (g : Below wx.heap.size wx wy) : Cr w h m b cnt k wy := by
  obtain ⟨D, F, h1, h2, h3⟩ := c.mp
  exact ⟨c.house.below g, c.had.below g, ⟨D, F, h1.below g, h2, h3⟩, c.len, c.le, Below.trans c.gr (below_low g c.gr.size)⟩
theorem crowd_cell {w : World} {B : Nat} {cnt : List Nat} {i c : Nat} (h : Bk w B (cnt.map fun (c : Nat) => Value.int .i64 (c : Int)) 26) (hc : cnt[i]? = some c) : w.cell? ⟨B, i, none⟩ = some (.int .i64 c) := h.cell (by rw [List.getElem?_map, hc]; rfl)
theorem cr_put {w wp : World} {h m B t i c : Nat} {cnt : List Nat} {F : List UInt8 → Option (Nat × Nat)} {D : DataW Unit} (h1 : Bk wp h [.bool true, .int .i32 0, .int .u32 0, .map (some m)] 51) (h2 : Bk wp B (cnt.map fun (c : Nat) => Value.int .i64 (c : Int)) 26)
    (h3 : Mp wp m (t + 1) D F) (h4 : Crd F (cnt.set i (c + 1))) (h5 : Maps.size D = total (cnt.set i (c + 1))) (hl : cnt.length = 8) (hle : ∀ (j x : Nat), cnt[j]? = some x → x ≤ t) (hc : cnt[i]? = some c) (hg : Below w.heap.size w wp) (hB : w.heap.size ≤ B) :
    Cr w h m B (cnt.set i (c + 1)) (t + 1) (wp.setCell ⟨B, i, none⟩ (.int .i64 ((c : Int) + 1))) := by
  obtain ⟨es, q, hm⟩ := h3.heap
  have nBm : m ≠ B := by
    rintro rfl
    rw [h2] at hm
    cases hm
  have nBh : h ≠ B := by
    rintro rfl
    have h1' : wp.heap[h]? = _ := h1
    rw [h2] at h1'
    simp only [Option.some.injEq, Obj.cells.injEq] at h1'
    exact absurd h1'.2.1 (by decide)
  have hs := h2.set i (.int .i64 ((c : Int) + 1))
  refine ⟨(block_ne _ _ _ _ _ nBh).trans h1, ?_, ⟨D, F, h3.keep (S := [B]) ((Keeps.refl _ _ _).set (Or.inl (List.mem_singleton.2 rfl)) _ _) (by simpa using nBm) (fun j hj C T hT => ?_), h4, h5⟩, by rw [List.length_set]; exact hl, fun j x hj => ?_, below_store hg hB⟩
  · rw [List.map_set]
    exact hs
  · rw [List.mem_singleton] at hj
    subst hj
    rw [h2] at hT
    simp only [Option.some.injEq, Obj.cells.injEq] at hT
    rw [← hT.2.1]
    decide
  · rw [List.getElem?_set] at hj
    split at hj
    · have := hle i c hc
      split at hj
      · simp only [Option.some.injEq] at hj
        omega
      · cases hj
    · have := hle j x hj
      omega
theorem total_put {cnt : List Nat} {i c : Nat} (hc : cnt[i]? = some c) : total (cnt.set i (c + 1)) = total cnt + (if c < 8 then 1 else 0) := by
  obtain ⟨hil, hie⟩ := List.getElem?_eq_some_iff.1 hc
  have := total_set cnt i hil
  rw [hie] at this
  exact this
theorem size_crd {w : World} {m t i c : Nat} {D : DataW Unit} {F : List UInt8 → Option (Nat × Nat)} {cnt : List Nat} {nm : List UInt8} {b : DataW Unit} (hm : Mp w m t D F) (hcd : Crd F cnt) (hsz : Maps.size D = total cnt) (hi : i < 8) (hc : cnt[i]? = some c) (hn : nm = nlL i (c % 8)) :
    Maps.size (D.put (.string nm) b) = total (cnt.set i (c + 1)) := by
  rw [total_put hc, size_put (hm.own.tidy keyed9), hm.has, hn, hcd i (c % 8) hi (Nat.mod_lt _ (by decide)), hsz]
  have hgd : cnt.getD i 0 = c := by rw [List.getD_eq_getElem?_getD, hc]; rfl
  rw [hgd]
  unfold stv
  by_cases h8 : c < 8
  · have e : ¬ c % 8 < c := by omega
    simp [e, h8]
  · have e : c % 8 < c := by omega
    simp [e, h8]
theorem keys_nodup {w : World} {m n : Nat} {D : DataW Unit} (hown : w.ownsMap Tryz.prog 9 Rp m n D) : (strKeys D).Nodup ∧ (strKeys D).length = Maps.size D := by
  obtain ⟨es, hD, hpw, _⟩ := hown.entries keyed9
  obtain ⟨es', hD', hko⟩ := hown.keysOf
  obtain rfl : es = es' := by rw [hD] at hD'; simpa using hD'
  subst hD
  refine ⟨?_, by simp [strKeys, Maps.size]⟩
  show (es.map fun p => strOf p.1).Nodup
  refine List.pairwise_map.2 (hpw.imp_of_mem fun {p q} hp' hq' hne e => hne ?_)
  obtain ⟨v, hv⟩ := hko p hp'
  obtain ⟨u, hu⟩ := hko q hq'
  obtain ⟨a, _, ha, _⟩ := Maps.keyOf_str und9z hv
  obtain ⟨b, _, hb, _⟩ := Maps.keyOf_str und9z hu
  rw [ha, hb] at e ⊢
  exact congrArg _ e
theorem keys_rise {w : World} {m n : Nat} {D : DataW Unit} (hown : w.ownsMap Tryz.prog 9 Rp m n D) {ss : List (List UInt8)} (hp : ss.Perm (strKeys D)) : ss.length = Maps.size D ∧ (ss.mergeSort (fun x y => decide (x ≤ y))).length = ss.length ∧ ∀ (i : Nat) (a b : List UInt8), (ss.mergeSort (fun x y => decide (x ≤ y)))[i]? = some a → (ss.mergeSort (fun x y => decide (x ≤ y)))[i + 1]? = some b → Op.bytesLess (⟨a.toArray⟩ : ByteArray).toList (⟨b.toArray⟩ : ByteArray).toList = true := by
  obtain ⟨h1, h2⟩ := keys_nodup hown
  have hl : (ss.mergeSort (fun x y => decide (x ≤ y))).length = ss.length := (List.mergeSort_perm ss _).length_eq
  refine ⟨hp.length_eq.trans h2, hl, fun i a b ha hb => ?_⟩
  have tr : ∀ a b c : List UInt8, leB a b = true → leB b c = true → leB a c = true := fun a b c h1 h2 => by simp only [leB, decide_eq_true_eq] at *; exact List.le_trans h1 h2
  have tot : ∀ a b : List UInt8, (leB a b || leB b a) = true := fun a b => by simp only [leB, Bool.or_eq_true, decide_eq_true_eq]; exact List.le_total a b
  have hpw : (ss.mergeSort leB).Pairwise (fun a b => leB a b = true) := List.pairwise_mergeSort tr tot ss
  have hnd : (ss.mergeSort leB).Nodup := ((List.mergeSort_perm ss leB).trans hp).nodup_iff.2 h1
  obtain ⟨hi, ha'⟩ := List.getElem?_eq_some_iff.1 ha
  obtain ⟨hj, hb'⟩ := List.getElem?_eq_some_iff.1 hb
  have q1 := List.pairwise_iff_getElem.1 hpw i (i + 1) hi hj (by omega)
  have q2 := List.pairwise_iff_getElem.1 hnd i (i + 1) hi hj (by omega)
  have e1 : (⟨a.toArray⟩ : ByteArray).toList = a := by rw [ByteArray.toList_eq]
  have e2 : (⟨b.toArray⟩ : ByteArray).toList = b := by rw [ByteArray.toList_eq]
  rw [bytesLess_eq, e1, e2, decide_eq_true_eq]
  have q1' : a ≤ b := by rw [← ha', ← hb']; simpa [leB] using q1
  have q2' : a ≠ b := by rw [← ha', ← hb']; exact q2
  exact List.not_le.1 (fun h => q2' (List.le_antisymm q1' h))
set_option synthInstance.maxHeartbeats 2000000 in
set_option synthInstance.maxSize 100000 in
set_option maxRecDepth 100000 in
set_option maxHeartbeats 16000000 in
theorem hCrowd {w : World} {a : Option Addr} {n cap : Nat} (xs : List UInt8) (hx : xs.length = n) (hc : 0 < n → ∃ g off, a = some ⟨g, off, none⟩ ∧ g < w.heap.size ∧ ∀ j (h : j < xs.length), w.cell? ⟨g, off + j, none⟩ = some (.int .u8 ((xs[j]'h).toNat)))
    (hA : ∀ W, Below w.heap.size w W → Calls Tryz.prog 5 #[] W fun e w' => e = .returned (.bool true) ∧ Kp0 W w') :
    Calls Tryz.prog 3 #[.slice a n cap] w fun e w' => e = .returned (.bool true) ∧ Kp0 w w' := by
  have A := hid hA
  have HC := hid hc
  have HX := hid hx
  clear hA hc hx
  by_cases hn : 200 < n
  · go_enter Tryz.func3, Tryz.ntmps3
    go_wp2_with (first | (go_at_call 5; (with_reducible refine Calls.mono (A.out _ (Below.refl _ _)) ?_); rintro e wc ⟨rfl, hal⟩) | (go_at_call 6; (with_reducible refine Calls.mono hNew ?_); rintro e wn ⟨rfl, rfl⟩))
    go_ret
    exact ⟨rfl, ⟨Gr.out⟩⟩
  · go_enter Tryz.func3, Tryz.ntmps3
    go_wp2_with (first | (go_at_call 5; (with_reducible refine Calls.mono (A.out _ (Below.refl _ _)) ?_); rintro e wc ⟨rfl, hal⟩) | (go_at_call 6; (with_reducible refine Calls.mono hNew ?_); rintro e wn ⟨rfl, rfl⟩))
    go_loopw [6, 7] (fun s6 s7 wx => ∃ (t : Nat) (cnt : List Nat), s7 = .int .i64 t ∧ s6 = .int .i64 (total cnt : Nat) ∧ t ≤ n ∧ Cr w (wc.heap.size + 1) wc.heap.size (wc.heap.size + 1 + 1) cnt t wx) (fun _ s7 _ => n - (intOf s7).toNat)
    case atStart =>
      refine ⟨0, List.replicate 8 0, rfl, rfl, Nat.zero_le _, (inferInstance : BkC _ (wc.heap.size + 1) _ 51).out, (inferInstance : BkC _ (wc.heap.size + 1 + 1) _ 26).out, ⟨_, _, ((mp_made wc).below ((Below.refl _ _).alloc (Nat.le_refl _) _)).below ((Below.refl _ _).alloc (Nat.le_refl _) _), ?_, rfl⟩, rfl, ?_, Gr.out⟩
      · intro a b ha hb
        have H : ∀ i : Fin 8, (List.replicate 8 0).getD i.1 0 = 0 := by decide
        rw [H ⟨a, ha⟩]
        rfl
      · intro i c hi
        have := List.mem_of_getElem? hi
        rw [List.mem_replicate] at this
        omega
    case round =>
      obtain ⟨t, cnt, rfl, rfl, ht, hcr⟩ := hrel
      by_cases hlt : t < n
      · obtain ⟨g, off, rfl, hgw, hcell⟩ := HC.out (by omega)
        have hx0 := hcell t (by rw [HX.out]; exact hlt)
        have hcx : wr.cell? ⟨g, off + t, none⟩ = some (.int .u8 (xs[t]'(by rw [HX.out]; exact hlt)).toNat) := (World.cell?_of_block (w := w) (hcr.gr.block g hgw)).trans hx0
        generalize (xs[t]'(by rw [HX.out]; exact hlt)) = x at hcx
        have hx256 : x.toNat < 256 := x.toNat_lt
        obtain ⟨v, hv⟩ : ∃ v, v = x.toNat := ⟨_, rfl⟩
        rw [← hv] at hcx hx256
        obtain ⟨i, hi⟩ : ∃ i, i = v % 8 := ⟨_, rfl⟩
        have hi8 : i < 8 := by omega
        have him : ((v : Int).tmod 8) = (i : Int) := by rw [hi, Int.tmod_eq_emod_of_nonneg (by omega)]; omega
        obtain ⟨c, hcnt⟩ : ∃ c, cnt[i]? = some c := ⟨_, List.getElem?_eq_getElem (by rw [hcr.len]; exact hi8)⟩
        have hct := hcr.le i c hcnt
        have hch : wr.cell? ⟨wc.heap.size + 1 + 1, i, none⟩ = some (.int .i64 c) := hcr.had.cell (by rw [List.getElem?_map, hcnt]; rfl)
        obtain ⟨k, hk⟩ : ∃ k, k = c % 8 := ⟨_, rfl⟩
        have hk8 : k < 8 := by omega
        have hkm : ((c : Int).tmod 8) = (k : Int) := by rw [hk, Int.tmod_eq_emod_of_nonneg (by omega)]; omega
        have hc200 : c ≤ 200 := by omega
        have HV := hid hv
        have HI := hid hi
        have HK := hid hk
        have HCT := hid hct
        have HCR := hid hcr
        have HCN := hid hcnt
        clear hx0 hcell hgw hv hi hk hct hcr hcnt
        have hwi : IntKind.i32.wrap (97 + (i : Int)) = 97 + (i : Int) := by rw [IntKind.wrap_i32]; omega
        have hwk : IntKind.i32.wrap (97 + (k : Int)) = 97 + (k : Int) := by rw [IntKind.wrap_i32]; omega
        have hsi : (Utf8.encode (97 + (i : Int))).size = 1 := by rw [enc_small i hi8]; rfl
        have hsk : (Utf8.encode (97 + (k : Int))).size = 1 := by rw [enc_small k hk8]; rfl
        obtain ⟨D, F, hmp, hcrd, hsz⟩ := HCR.out.mp
        haveI ih : BkC wr (wc.heap.size + 1) _ 51 := ⟨HCR.out.house⟩
        haveI ib : BkC wr (wc.heap.size + 1 + 1) _ 26 := ⟨HCR.out.had⟩
        haveI ig : Gr w wr := ⟨HCR.out.gr⟩
        have hlen := HCR.out.len
        have htl : total cnt ≤ 64 := by have := total_le cnt; omega
        have HMP := hid hmp
        have HCD := hid hcrd
        have HSZ := hid hsz
        have HLN := hid hlen
        have hroom : Hid ((F (nlB i k).data.toList).isSome = true ∨ Maps.size D < 64) := hid (by
          rw [nlB_list hi8 hk8, hcrd i k hi8 hk8, hsz]
          have hgd : cnt.getD i 0 = c := by rw [List.getD_eq_getElem?_getD, HCN.out]; rfl
          rw [hgd]
          unfold stv
          by_cases hkc : k < c
          · left; rw [if_pos hkc]; rfl
          · right
            obtain ⟨hil, hie⟩ := List.getElem?_eq_some_iff.1 HCN.out
            have := total_lt cnt i hil (by rw [hie]; have := HK.out; omega)
            omega)
        haveI hok : OkS (flI i, flI c) := flI_ok (by omega) hc200
        have HNM : Hid (({ data := #[120] } : ByteArray) ++ Utf8.encode (97 + (i : Int)) ++ Utf8.encode (97 + (k : Int)) = nlB i k) := hid rfl
        have HCC : Hid ((cnt.map fun (c : Nat) => Value.int .i64 (c : Int))[i]? = some (.int .i64 c)) := hid (by rw [List.getElem?_map, HCN.out]; rfl)
        have HNS : Hid ((nlB i k).size ≤ 70000) := hid (by rw [nlB_size hi8 hk8]; decide)
        have HNF := hid (nlB_fit hi8 hk8)
        have HT : Hid (t < 1000000) := hid (by omega)
        clear hmp hcrd hsz hlen
        obtain ⟨b8, hb8⟩ : ∃ b8, decide ((c : Int) < 8) = b8 := ⟨_, rfl⟩
        cases b8
        all_goals
          go_wp2_with (first | (go_at_call 7; (with_reducible refine Calls.mono lwStream ?_); rintro e ws ⟨g1, rfl, hs1, hs2, hs3⟩) | (go_at_call 8; rw [HNM.out]; have hmq := HMP.out.below (Gr.out (v := wr) (W := ws.alloc (.cells #[.slice (some ⟨g1, 0, none⟩) 1 1] 29))); go_loud (with_reducible refine Calls.mono (hPut (h := wc.heap.size + 1) (s := (flI i, flI c)) (nm := nlB i k) HNS.out HNF.out hmq HT.out hroom.out) ?_); rintro e wp ⟨rfl, b1, hp1, hp2, hp3⟩; have hcp : wp.cell? ⟨wc.heap.size + 1 + 1, i, none⟩ = some (.int .i64 c) := (inferInstance : BkC wp (wc.heap.size + 1 + 1) _ 26).out.cell HCC.out; have hfp := (inferInstance : BkC wp (wc.heap.size + 1 + 1) _ 26).out.free i))
          have HC2 := cr_put (w := w) (B := wc.heap.size + 1 + 1) hp1.out (inferInstance : BkC wp (wc.heap.size + 1 + 1) _ 26).out hp2 (by rw [nlB_list hi8 hk8, HK.out]; exact crd_put HCD.out HLN.out hi8 (by rw [List.getD_eq_getElem?_getD, HCN.out]; rfl)) (size_crd HMP.out HCD.out HSZ.out hi8 HCN.out (by rw [nlB_list hi8 hk8, HK.out])) HLN.out HCR.out.le HCN.out (Gr.out (v := w) (W := wp)) (Up.out (B := w.heap.size))
          have HB8 := hid hb8
          have hT : ((total (cnt.set i (c + 1)) : Nat) : Int) = _ := congrArg Int.ofNat (total_put HCN.out)
          obtain ⟨W, hW⟩ : ∃ W, W = wp.setCell ⟨wc.heap.size + 1 + 1, i, none⟩ (.int .i64 ((c : Int) + 1)) := ⟨_, rfl⟩
          rw [← hW] at HC2 ⊢
          have hl2 : (cnt.set i (c + 1)).length = 8 := by rw [List.length_set]; exact HLN.out
          obtain ⟨cn, hcn⟩ : ∃ cn, cn = cnt.set i (c + 1) := ⟨_, rfl⟩
          rw [← hcn] at HC2 hT hl2
          obtain ⟨T2, hT2⟩ : ∃ T2, T2 = total cn := ⟨_, rfl⟩
          rw [← hT2] at hT
          have HC2' := hid HC2
          have HT' := hid hT
          have HT2 := hid hT2
          have HL2 := hid hl2
          have hwG : Below w.heap.size w W := HC2.gr
          have HWG := hid hwG
          clear HC2 hT hT2 hl2 hwG hW hcn hmq hp1 hp2 hp3 hcp hfp ih ib ig hwi hwk hsi hsk him hkm hcx hch htl hb8
          go_loopw [12] (fun s12 wx => ∃ nn : Nat, s12 = .int .i64 nn ∧ nn ≤ 8 ∧ Kp0 W wx) (fun s12 _ => 8 - (intOf s12).toNat)
          case atStart => exact ⟨0, rfl, Nat.zero_le _, ⟨Gr.out⟩⟩
          case round =>
            obtain ⟨nn, rfl, hn8, hkw⟩ := hrel
            by_cases hnl : nn < 8
            · have e9 : decide ((nn : Int) < 8) = true := decide_eq_true (by omega)
              go_wp2_with fail
              go_loopw [13] (fun s13 wx => ∃ mm : Nat, s13 = .int .i64 mm ∧ mm ≤ 8 ∧ Kp0 W wx) (fun s13 _ => 8 - (intOf s13).toNat)
              case atStart => exact ⟨0, rfl, Nat.zero_le _, ⟨Gr.out⟩⟩
              case round =>
                obtain ⟨mm, rfl, hm8, hkm2⟩ := hrel
                by_cases hml : mm < 8
                · have e8 : decide ((mm : Int) < 8) = true := decide_eq_true (by omega)
                  obtain ⟨c2, hc2⟩ : ∃ c2, cn[nn]? = some c2 := ⟨_, List.getElem?_eq_getElem (by rw [HL2.out]; exact hnl)⟩
                  have hcw : wr.cell? ⟨wc.heap.size + 1 + 1, nn, none⟩ = some (.int .i64 c2) := crowd_cell (HC2'.out.below Gr.out).had hc2
                  have hc2t := HC2'.out.le nn c2 hc2
                  obtain ⟨D2, F2, hmp2, hcr2, -⟩ := (HC2'.out.below (Gr.out (v := W) (W := wr))).mp
                  have hF2 := hcr2 nn mm hnl hml
                  rw [show cn.getD nn 0 = c2 by rw [List.getD_eq_getElem?_getD, hc2]; rfl] at hF2
                  rw [← nlB_list hnl hml] at hF2
                  haveI ih : BkC wr (wc.heap.size + 1) _ 51 := ⟨(HC2'.out.below (Gr.out (v := W) (W := wr))).house⟩
                  have hwi : IntKind.i32.wrap (97 + (nn : Int)) = 97 + (nn : Int) := by rw [IntKind.wrap_i32]; omega
                  have hwk : IntKind.i32.wrap (97 + (mm : Int)) = 97 + (mm : Int) := by rw [IntKind.wrap_i32]; omega
                  have hsi : (Utf8.encode (97 + (nn : Int))).size = 1 := by rw [enc_small nn hnl]; rfl
                  have hsk : (Utf8.encode (97 + (mm : Int))).size = 1 := by rw [enc_small mm hml]; rfl
                  have HNM2 : Hid (({ data := #[120] } : ByteArray) ++ Utf8.encode (97 + (nn : Int)) ++ Utf8.encode (97 + (mm : Int)) = nlB nn mm) := hid rfl
                  have HNS2 : Hid ((nlB nn mm).size ≤ 70000) := hid (by rw [nlB_size hnl hml]; decide)
                  have HNF2 := hid (nlB_fit hnl hml)
                  have HMP2 := hid hmp2
                  have HT3 := hid hc2t
                  have hc2200 : c2 ≤ 201 := by omega
                  obtain ⟨q, hq⟩ : ∃ q : Int, ((c2 : Int) - 1 - (mm : Int) + 8).tmod 8 = q := ⟨_, rfl⟩
                  have hq0 : 0 ≤ q ∧ q < 8 := by rw [← hq, Int.tmod_eq_emod_of_nonneg (by omega)]; omega
                  have b0 : (0 : Int) ≤ (nn : Int) := by omega
                  have b1 : (nn : Int) < 8 := by omega
                  have b2 : (nn : Int) ≤ 7 := by omega
                  have s1 : IntKind.i64.wrap ((c2 : Int) - 1) = (c2 : Int) - 1 := by exact IntWalk.i64_in _ (by omega)
                  have s2 : IntKind.i64.wrap ((c2 : Int) - 1 - (mm : Int)) = (c2 : Int) - 1 - (mm : Int) := by exact IntWalk.i64_in _ (by omega)
                  have s3 : IntKind.i64.wrap ((c2 : Int) - 1 - (mm : Int) + 8) = (c2 : Int) - 1 - (mm : Int) + 8 := by exact IntWalk.i64_in _ (by omega)
                  have s4 : IntKind.i64.wrap ((c2 : Int) - 1 - q) = (c2 : Int) - 1 - q := by exact IntWalk.i64_in _ (by omega)
                  unfold stv at hF2
                  by_cases hmc : mm < c2
                  · have e7 : ¬ ((c2 : Int) ≤ (mm : Int)) := by omega
                    have e7b : ¬ (c2 ≤ mm) := by omega
                    rw [if_pos hmc] at hF2
                    have hlv : (c2 : Int) - 1 - q = ((lastv c2 mm : Nat) : Int) := by
                      rw [← hq, Int.tmod_eq_emod_of_nonneg (by omega)]
                      unfold lastv
                      omega
                    have HF2 := hid hF2
                    have o1 := flI_eq nn (by omega)
                    have o2 := flI_eq (lastv c2 mm) (by unfold lastv; omega)
                    clear hF2 hmp2 hcr2 hc2 hc2t
                    go_upto_region 26 with (go_at_call 9; rw [HNM2.out]; clear hsi hsk hwi hwk; (with_reducible refine Calls.mono (hGetS HNS2 HNF2 HMP2.out HF2) ?_); rintro e wg ⟨g2, cap2, rfl, hg1, hgK, hg3⟩; have hcg : wg.cell? ⟨wc.heap.size + 1 + 1, nn, none⟩ = some (.int .i64 c2) := ((World.cell?_of_block (w := wr) (hgK.out.block _ (World.block_lt_of_cell? _ _ hcw))).trans hcw); haveI : Has wg (wc.heap.size + 1 + 1) := ⟨World.block_lt_of_cell? _ _ hcg⟩; have d2 := hg1.out.cell (i := 2) rfl)
                    go_region_held3 (fun W => W.cell? ⟨wc.heap.size + 1 + 1, nn, none⟩ = some (.int .i64 c2)) (first | exact hcg | (simp [go_sem, hcg]; done)) (fail)
                    go_wp2_with fail
                    go_round
                    case rel => exact ⟨mm + 1, rfl, by omega, ⟨Gr.out⟩⟩
                    case measure => simp [intOf]; omega
                  · have e7 : ((c2 : Int) ≤ (mm : Int)) := by omega
                    have e7b : c2 ≤ mm := by omega
                    rw [if_neg hmc] at hF2
                    have HF2 := hid hF2
                    clear hF2 hmp2 hcr2 hc2 hc2t
                    go_upto_region 26 with (go_at_call 9; rw [HNM2.out]; clear hsi hsk hwi hwk; (with_reducible refine Calls.mono (hGet0 HNS2 HNF2 HMP2.out HF2) ?_); rintro e wg ⟨rfl, hgK⟩; have hcg : wg.cell? ⟨wc.heap.size + 1 + 1, nn, none⟩ = some (.int .i64 c2) := ((World.cell?_of_block (w := wr) (hgK.out.block _ (World.block_lt_of_cell? _ _ hcw))).trans hcw); haveI : Has wg (wc.heap.size + 1 + 1) := ⟨World.block_lt_of_cell? _ _ hcg⟩)
                    go_region_held3 (fun W => W.cell? ⟨wc.heap.size + 1 + 1, nn, none⟩ = some (.int .i64 c2)) (first | exact hcg | (simp [go_sem, hcg]; done)) (fail)
                    go_wp2_with fail
                    go_round
                    case rel => exact ⟨mm + 1, rfl, by omega, ⟨Gr.out⟩⟩
                    case measure => simp [intOf]; omega
                · have e8 : decide ((mm : Int) < 8) = false := decide_eq_false (by omega)
                  go_wp2_with fail
                  case roundEnd => exact ⟨⟨nn + 1, rfl, by omega, ⟨Gr.out⟩⟩, by simp [intOf]; omega⟩
            · have e9 : decide ((nn : Int) < 8) = false := decide_eq_false (by omega)
              go_wp2_with fail
              case roundEnd =>
                refine ⟨⟨t + 1, cn, rfl, congrArg (Value.int .i64) ?_, by omega, HC2'.out.below Gr.out⟩, by simp [intOf]; omega⟩
                have h1 := HT'.out
                have h2 := HB8.out
                have h3 := HT2.out
                first
                  | (rw [if_neg (show ¬ c < 8 by have := of_decide_eq_false h2; omega)] at h1; simp only [Int.ofNat_eq_natCast] at h1; omega)
                  | (rw [if_pos (show c < 8 by have := of_decide_eq_true h2; omega)] at h1; simp only [Int.ofNat_eq_natCast] at h1; omega)
      · haveI ih : BkC wr (wc.heap.size + 1) _ 51 := ⟨hcr.house⟩
        haveI ig : Gr w wr := ⟨hcr.gr⟩
        obtain ⟨D, F, hmp, -, hsz⟩ := hcr.mp
        have htl : total cnt ≤ 64 := by have := total_le cnt; have := hcr.len; omega
        have HMP := hid hmp
        have HSZ := hid hsz
        clear hcr hmp hsz
        go_wp2_with (go_at_call 10; (with_reducible refine Calls.mono (hNames HMP.out (by omega)) ?_); rintro e wN ⟨v, ss, Bn, rfl, hp, ho, hk⟩; obtain ⟨k1, k2, k3⟩ := keys_rise HMP.out.own hp; rw [k1, HSZ.out] at ho; obtain ⟨an, capn, rfl, hcells⟩ := own_form ho; have K1 := hid (k1.trans HSZ.out); have K3 := hid k3; have HCE := hid hcells; have K2 := hid k2; clear k1 k2 k3 hcells ho hp)
        generalize total cnt = Ln at *
        go_loopw [18] (fun s18 wx => ∃ j : Nat, s18 = .int .i64 j ∧ 1 ≤ j ∧ Kp0 wN wx) (fun s18 _ => Ln - (intOf s18).toNat)
        case atStart => exact ⟨1, rfl, Nat.le_refl _, ⟨Gr.out⟩⟩
        case round =>
          obtain ⟨j, rfl, hj1, hkw⟩ := hrel
          by_cases hjl : j < Ln
          · obtain ⟨g, rfl, hce⟩ := HCE.out (by omega)
            have e9 : (j : Int) < (Ln : Int) := by omega
            obtain ⟨i, hi⟩ : ∃ i, j = i + 1 := ⟨j - 1, by omega⟩
            have hLlen : (ss.mergeSort (fun x y => decide (x ≤ y))).length = Ln := K2.out.trans K1.out
            have hxi := List.getElem?_eq_getElem (l := ss.mergeSort (fun x y => decide (x ≤ y))) (i := i) (by omega)
            have hxj := List.getElem?_eq_getElem (l := ss.mergeSort (fun x y => decide (x ≤ y))) (i := i + 1) (by omega)
            have hlt := K3.out i _ _ hxi hxj
            have hci := hce i (by rw [List.length_map]; omega)
            have hcj := hce (i + 1) (by rw [List.length_map]; omega)
            rw [List.getElem?_map, hxi] at hci
            rw [List.getElem?_map, hxj] at hcj
            generalize (ss.mergeSort (fun x y => decide (x ≤ y)))[i]'(by omega) = la at hlt hci
            generalize (ss.mergeSort (fun x y => decide (x ≤ y)))[i + 1]'(by omega) = lb at hlt hcj
            rw [← hi] at hcj
            have hgl : g < wN.heap.size := World.block_lt_of_cell? _ _ hci
            have dci : wr.cell? ⟨g, i, none⟩ = some (.string ⟨la.toArray⟩) := (World.cell?_of_block (w := wN) (hkw.out.block g hgl)).trans hci
            have dcj : wr.cell? ⟨g, j, none⟩ = some (.string ⟨lb.toArray⟩) := (World.cell?_of_block (w := wN) (hkw.out.block g hgl)).trans hcj
            generalize (⟨la.toArray⟩ : ByteArray) = sa at hlt dci
            generalize (⟨lb.toArray⟩ : ByteArray) = sb at hlt dcj
            haveI : Has wr g := ⟨World.block_lt_of_cell? _ _ dci⟩
            have hz : IntKind.i64.wrap ((j : Int) - 1) = ((i : Nat) : Int) := by rw [IntWalk.i64_in _ (by omega)]; omega
            have z1 : (0 : Int) ≤ (i : Int) := by omega
            have z2 : (i : Int) < (Ln : Int) := by omega
            have z3 : (i : Int) ≤ (Ln : Int) := by omega
            have z4 : (0 : Int) ≤ (j : Int) := by omega
            have z5 : (j : Int) ≤ (Ln : Int) := by omega
            have HI := hid hi
            clear hi hci hcj hce hxi hxj hLlen
            go_upto_region 36 with fail
            go_region_held3 (fun W => W.cell? ⟨g, i, none⟩ = some (.string sa) ∧ W.cell? ⟨g, j, none⟩ = some (.string sb)) (refine ⟨?_, ?_⟩ <;> first | exact dci | exact dcj | (simp [go_sem, dci, dcj]; done)) (fail)
            go_wp2_with fail
            go_round
            case rel => exact ⟨j + 1, rfl, by omega, ⟨Gr.out⟩⟩
            case measure => simp [intOf]; omega
          · have e9 : ¬ (j : Int) < (Ln : Int) := by omega
            have e8 : ¬ j < Ln := by omega
            go_wp2_with fail
            go_ret
            exact ⟨rfl, ⟨Gr.out⟩⟩
end
section
open Go.RowKit
open Go.Maps Go.ChangeMaps
set_option synthInstance.maxHeartbeats 2000000 in
set_option synthInstance.maxSize 100000 in
set_option maxRecDepth 100000 in
set_option maxHeartbeats 16000000 in
theorem hLoad0 {w : World} (V : Vars w) (h10 : 10 ≤ w.heap.size) : Calls Tryz.prog 40 #[.string houB] w fun e w' => ∃ (m b : Nat) (F : List UInt8 → Option (Nat × Nat)), e = .returned (.tuple #[.map (some m), .pointer none]) ∧ Mp w' m 1 ((DataW.map [] : DataW Unit).put (.string wingB.data.toList) (.lit (.int .i64 (b : Nat)))) F ∧ Kp0 w w' ∧ UpW w m := by
  have VW := hid (fun (W : World) (hg : Below w.heap.size w W) => V.keep (Keeps.of_below (S := []) hg) h10 (by simp))
  have H10 := hid h10
  have hsz := houB_size
  have hmm := @run_makeMap Tryz.prog
  have hkey : keyOf Tryz.prog 9 (.string wingB) = some (.string wingB.data.toList) := Go.WideMaps.keyOf_string_mk und9z (by unfold maxLen; decide +kernel)
  clear V h10
  go_enter Tryz.func40, Tryz.ntmps40
  go_wp2_with (first | (go_at_call 67; (with_reducible refine Calls.mono (hWordB (i := 0) (j := 19) (I := 0) (J := 19) [⟨#[101, 100, 100, 121]⟩, ⟨#[32]⟩, ⟨#[104, 111, 117, 115, 101]⟩, ⟨#[32]⟩, ⟨#[49]⟩, ⟨#[10]⟩, ⟨#[110, 97, 109, 101, 115]⟩, ⟨#[32]⟩] rfl rfl rfl rfl (by decide) (by rw [houB_size]; decide) (by rw [houB_size]; decide) (by decide +kernel)) ?_); rintro e w1 ⟨rfl, _, _⟩; have d0 := (inferInstance : BkC w1 w.heap.size _ 131).out.cell (i := 0) rfl; have d1 := (inferInstance : BkC w1 w.heap.size _ 131).out.cell (i := 1) rfl) | (go_at_call 68; (with_reducible refine Calls.mono hWholeA ?_); rintro e w2 ⟨rfl, _, _⟩; have d0 := (inferInstance : BkC w2 w.heap.size _ 131).out.cell (i := 0) rfl; have d1 := (inferInstance : BkC w2 w.heap.size _ 131).out.cell (i := 1) rfl) | (go_at_call 67; (with_reducible refine Calls.mono (hWordB (i := 20) (j := 21) (I := 20) (J := 21) [⟨#[10]⟩] rfl rfl rfl rfl (by decide) (by rw [houB_size]; decide) (by rw [houB_size]; decide) (by decide +kernel)) ?_); rintro e w3 ⟨rfl, _, _⟩; have d0 := (inferInstance : BkC w3 w.heap.size _ 131).out.cell (i := 0) rfl; have d1 := (inferInstance : BkC w3 w.heap.size _ 131).out.cell (i := 1) rfl))
  go_loopw [10, 44] (fun s10 s44 wx => ∃ j : Int, s44 = .int .i64 j ∧ Kp0 w wx ∧ (j = 0 ∧ s10 = .string ⟨#[]⟩ ∧ BkC wx w.heap.size [.string houB, .int .i64 21] 131 ∧ Mp wx w3.heap.size 0 (.map []) (fun _ => none) ∨ j = 1 ∧ ∃ (b : Nat) (F : List UInt8 → Option (Nat × Nat)), BkC wx w.heap.size [.string houB, .int .i64 174] 131 ∧ Mp wx w3.heap.size 1 ((DataW.map [] : DataW Unit).put (.string wingB.data.toList) (.lit (.int .i64 (b : Nat)))) F)) (fun _ s44 _ => 1 - (intOf s44).toNat)
  case atStart =>
    refine ⟨0, rfl, ⟨Gr.out⟩, .inl ⟨rfl, rfl, inferInstance, mp_made w3⟩⟩
  case round =>
    have l1 : w.heap.size < w3.heap.size := (inferInstance : Has w3 w.heap.size).lt
    have nm1 : ¬ w3.heap.size = w.heap.size := by omega
    haveI hup3 : Up w.heap.size w3.heap.size := ⟨Nat.le_of_lt l1⟩
    obtain ⟨j, rfl, hkw, hj⟩ := hrel
    rcases hj with ⟨rfl, rfl, ib, hmp⟩ | ⟨rfl, b, F, ib, hmp⟩
    · go_wp2_with (first | (go_at_call 69; (with_reducible refine Calls.mono (hFlow (r := w.heap.size) (VW.out _ Gr.out) (Nat.le_trans H10.out (Gr.out (v := w) (W := wr)).size) H10.out) ?_); rintro e wf ⟨g1, cap1, rfl, _, _, _, hu⟩; have hm3 : Hid (Mp (wf.alloc (.cells #[.slice (some ⟨g1, 0, none⟩) 1 cap1] 29)) w3.heap.size 0 (.map []) (fun _ => none)) := hid ((hmp.keep (inferInstance : KpS wr [w.heap.size] wf).out (by simpa using nm1) (fun q hq C T hT => by rw [List.mem_singleton] at hq; subst hq; rw [ib.out] at hT; simp only [Option.some.injEq, Obj.cells.injEq] at hT; rw [← hT.2.1]; decide)).below ((Below.refl _ _).alloc (Nat.le_refl _) _))) | (at_mapUpdate; refine wpList_mapUpdate_in _ rfl _ _ _ 49 rfl 9 79 keyed9 und49z Rp w3.heap.size 0 (.map []) rfl hm3.out.own (by unfold maxLen; omega) _ _ _ rfl rfl hkey _ [] rfl ?_; intro wu ho1 ht1; haveI hk1 : KpS (wf.alloc (.cells #[.slice (some ⟨g1, 0, none⟩) 1 cap1] 29)) [w3.heap.size] wu := ⟨turned_keeps ht1⟩))
      case roundEnd => exact ⟨⟨1, rfl, ⟨Gr.out⟩, .inr ⟨rfl, wf.heap.size, _, inferInstance, hm3.out.put (inferInstance : BkC _ wf.heap.size _ 29).out (inferInstance : FsC (wf.alloc (.cells #[.slice (some ⟨g1, 0, none⟩) 1 cap1] 29)) g1 _).out ho1 ht1⟩⟩, by simp [intOf]⟩
    · go_wp2_with (go_at_call 70; (with_reducible refine Calls.mono (hEnd (r := w.heap.size) (VW.out _ Gr.out) (Nat.le_trans H10.out (Gr.out (v := w) (W := wr)).size) H10.out) ?_); rintro e we ⟨rfl, _⟩)
      go_ret2
      exact ⟨w3.heap.size, b, F, rfl, hmp.keep (inferInstance : KpS wr [w.heap.size] we).out (by simpa using nm1) (fun q hq C T hT => by rw [List.mem_singleton] at hq; subst hq; rw [ib.out] at hT; simp only [Option.some.injEq, Obj.cells.injEq] at hT; rw [← hT.2.1]; decide), ⟨Gr.out⟩, ⟨Nat.le_of_lt l1⟩⟩
end
section
open Go.RowKit
open Go.Maps Go.ChangeMaps
set_option synthInstance.maxHeartbeats 2000000 in
set_option synthInstance.maxSize 100000 in
set_option maxRecDepth 100000 in
set_option maxHeartbeats 16000000 in
theorem hLoad {w : World} {h m : Nat} [hh : BkC w h [.bool true, .int .i32 0, .int .u32 0, .map (some m)] 51] (V : Vars w) (h10 : 10 ≤ w.heap.size) : Calls Tryz.prog 14 #[.pointer (some ⟨h, 0, none⟩), .string houB] w fun e w' => e = .returned .nilIface ∧ ∃ (m2 b : Nat) (F : List UInt8 → Option (Nat × Nat)), BkC w' h [.bool true, .int .i32 0, .int .u32 0, .map (some m2)] 51 ∧ Mp w' m2 1 ((DataW.map [] : DataW Unit).put (.string wingB.data.toList) (.lit (.int .i64 (b : Nat)))) F ∧ KpS w [h] w' := by
  have VW := hid (fun (W : World) (hg : Below w.heap.size w W) => V.keep (Keeps.of_below (S := []) hg) h10 (by simp))
  have H10 := hid h10
  clear V h10
  go_enter_defers Tryz.func14, Tryz.ntmps14
  go_wp2_with (first | (go_at_call 24; (with_reducible refine Calls.mono (hKnownN (m := m) (h := h)) ?_); rintro e wk ⟨rfl, hk0⟩) | (go_at_call 40; (with_reducible refine Calls.mono (hLoad0 (VW.out _ Gr.out) (Nat.le_trans H10.out (Gr.out (v := w) (W := wk)).size)) ?_); rintro e wa ⟨m2, b, F, rfl, hmp, hka, hua⟩; have ck : wa.cell? ⟨h, 1, none⟩ = some (.int .i32 0) := (inferInstance : BkC wa h _ _).out.cell rfl; have fk := (inferInstance : BkC wa h _ _).out.free 1; have ck3 : wa.cell? ⟨h, 3, none⟩ = some (.map (some m)) := (inferInstance : BkC wa h _ _).out.cell rfl; have fk3 := (inferInstance : BkC wa h _ _).out.free 3) | (go_at_call 25; (with_reducible refine Calls.mono (Go.MuLone.lock_free Tryz.muLib ⟨h, 1, none⟩ wa ck fk) ?_); rintro e wl ⟨rfl, rfl⟩))
  have h1 := (inferInstance : BkC wa h _ 51).out
  have h2 := (inferInstance : BkC (wa.setCell ⟨h, 1, none⟩ (.int .i32 1)) h _ 51).out
  have h3 := (inferInstance : BkC ((wa.setCell ⟨h, 1, none⟩ (.int .i32 1)).setCell ⟨h, 3, none⟩ (.map (some m2))) h _ 51).out
  refine leaves_cons (f := 26) (args := #[.pointer (some ⟨h, 1, none⟩)]) (by simp) (by simp [go_sem]) ?_
  refine (Go.MuLone.unlock_deferred Tryz.muLib ⟨h, 1, none⟩ .returning _ ?_ ?_).mono ?_
  · exact h3.cell rfl
  · exact h3.free 1
  rintro e u' w'' ⟨rfl, rfl, rfl⟩
  exact ⟨_, results_tmp rfl _ _ _, rfl, m2, b, F, inferInstance, ((hmp.lock h1 1 (.int .i32 1)).lock h2 3 (.map (some m2))).lock h3 1 (.int .i32 0), ⟨GS.out⟩⟩
end
section
open Go.RowKit
set_option synthInstance.maxHeartbeats 2000000 in
set_option synthInstance.maxSize 100000 in
set_option maxRecDepth 100000 in
set_option maxHeartbeats 16000000 in
theorem hPotFlow {w : World} {b cap : Nat} [hb : FsC w b (4611686018427387904, 4607182418800017408)] : Calls Tryz.prog 45 #[.agg #[.slice (some ⟨b, 0, none⟩) 1 cap], .complex .f64 0 0] w fun e w' => e = .returned (.tuple #[.complex .f64 0 0, .int .i64 0]) ∧ Kp0 w w' := by
  go_enter Tryz.func45, Tryz.ntmps45
  go_wp2_with (go_at_call 74; (with_reducible refine Calls.mono (hPotOver (b := b) (cap := cap)) ?_); rintro e wc ⟨rfl, _⟩)
  go_ret2
  exact ⟨rfl, ⟨Gr.out⟩⟩
set_option synthInstance.maxHeartbeats 2000000 in
set_option synthInstance.maxSize 100000 in
set_option maxRecDepth 100000 in
set_option maxHeartbeats 16000000 in
theorem hSpdFlow {w : World} {b cap : Nat} [hb : FsC w b (4611686018427387904, 4607182418800017408)] : Calls Tryz.prog 46 #[.agg #[.slice (some ⟨b, 0, none⟩) 1 cap], .complex .f64 0 0] w fun e w' => e = .returned (.tuple #[.complex .f64 4611686018427387904 4607182418800017408, .int .i64 0]) ∧ Kp0 w w' := by
  go_enter Tryz.func46, Tryz.ntmps46
  go_wp2_with (go_at_call 74; (with_reducible refine Calls.mono (hSpdOver (b := b) (cap := cap)) ?_); rintro e wc ⟨rfl, _⟩)
  go_ret2
  exact ⟨rfl, ⟨Gr.out⟩⟩
set_option synthInstance.maxHeartbeats 2000000 in
set_option synthInstance.maxSize 100000 in
set_option maxRecDepth 100000 in
set_option maxHeartbeats 16000000 in
theorem hAt {w : World} {h m n : Nat} {nm : ByteArray} {D : DataW Unit} {F : List UInt8 → Option (Nat × Nat)} (hsz : Hid (nm.size ≤ 70000)) (hfit : Hid (fitL nm.data.toList = true)) [hh : BkC w h [.bool true, .int .i32 0, .int .u32 0, .map (some m)] 51] (hm : Mp w m n D F) (hF : Hid (F nm.data.toList = some (4611686018427387904, 4607182418800017408))) : Calls Tryz.prog 18 #[.pointer (some ⟨h, 0, none⟩), .string nm, .complex .f64 0 0] w fun e w' => e = .returned (.tuple #[.complex .f64 0 0, .complex .f64 4611686018427387904 4607182418800017408, .int .i64 0]) ∧ Kp0 w w' := by
  go_enter Tryz.func18, Tryz.ntmps18
  go_wp2_with (first | (go_at_call 23; (with_reducible refine Calls.mono (hgetS hsz hfit hm hF) ?_); rintro e wc ⟨g1, cap1, rfl, _, _, _⟩) | (go_at_call 45; (with_reducible refine Calls.mono (hPotFlow) ?_); rintro e wc ⟨rfl, _⟩) | (go_at_call 46; (with_reducible refine Calls.mono (hSpdFlow) ?_); rintro e wc ⟨rfl, _⟩))
  go_ret3
  exact ⟨rfl, ⟨Gr.out⟩⟩
end
section
open Go.RowKit
open Go.Sort Go.Maps Go.ChangeMaps
theorem hSaveB {w : World} {h m n : Nat} {D : DataW Unit} {F : List UInt8 → Option (Nat × Nat)} [hh : BkC w h [.bool true, .int .i32 0, .int .u32 0, .map (some m)] 51] (hm : Mp w m n D F) (hn : n < 1000000) (hk : strKeys D = [wingB.data.toList]) (hF : F wingB.data.toList = some (4611686018427387904, 4607182418800017408)) (V : Vars w) (h10 : 10 ≤ w.heap.size) : Calls Tryz.prog 11 #[.pointer (some ⟨h, 0, none⟩)] w fun e w' => e = .returned (.tuple #[.string houB, .int .i64 0]) ∧ Kp0 w w' := hSave hm hn hk hF V h10
def Fw (q : List UInt8) : Option (Nat × Nat) := if q = (⟨#[119, 105, 110, 103]⟩ : ByteArray).data.toList then some (4611686018427387904, 4607182418800017408) else (fun _ => none) q
theorem Fw_wing : Hid (Fw (⟨#[119, 105, 110, 103]⟩ : ByteArray).data.toList = some (4611686018427387904, 4607182418800017408)) := hid (if_pos rfl)
theorem keys_wing (b : Nat) : strKeys ((DataW.map [] : DataW Unit).put (.string wingB.data.toList) (.lit (.int .i64 (b : Nat)))) = [wingB.data.toList] := by
  simp [DataW.put, DataW.insert, strKeys, strOf]
theorem wing_size : Hid ((⟨#[119, 105, 110, 103]⟩ : ByteArray).size ≤ 70000) := hid (by decide +kernel)
theorem wing_fit : Hid (fitL (⟨#[119, 105, 110, 103]⟩ : ByteArray).data.toList = true) := hid (by decide +kernel)
set_option synthInstance.maxHeartbeats 2000000 in
set_option synthInstance.maxSize 100000 in
set_option maxRecDepth 100000 in
set_option maxHeartbeats 16000000 in
theorem hAlive {w : World} (V : Vars w) (h10 : 10 ≤ w.heap.size) : Calls Tryz.prog 5 #[] w fun e w' => e = .returned (.bool true) ∧ Kp0 w w' := by
  have VW := hid (fun (W : World) (hg : Below w.heap.size w W) => V.keep (Keeps.of_below (S := []) hg) h10 (by simp))
  have H10 := hid h10
  haveI hok := okS21
  have hsz := houB_size
  have o1 : (FloatKind.f64.format.order 4611686018427387904 4611686018427387904 == some Ordering.eq) = true := by kernel_rfl
  have o2 : (FloatKind.f64.format.order 4607182418800017408 4607182418800017408 == some Ordering.eq) = true := by kernel_rfl
  clear V h10
  go_enter Tryz.func5, Tryz.ntmps5
  go_wp2_with (first | (go_at_call 6; (with_reducible refine Calls.mono hNew ?_); rintro e wn ⟨rfl, rfl⟩) | (go_at_call 7; (with_reducible refine Calls.mono lwStream ?_); rintro e ws ⟨g1, rfl, hs1, hs2, hs3⟩) | (go_at_call 8; (with_reducible refine Calls.mono (hPut (h := w.heap.size + 1) (m := w.heap.size) (s := (4611686018427387904, 4607182418800017408)) (nm := ⟨#[119, 105, 110, 103]⟩) (by decide +kernel) (by decide +kernel) (((mp_made w).below ((Below.refl _ _).alloc (Nat.le_refl _) _)).below hs2.out) (by decide) (.inr (by decide))) ?_); rintro e wp ⟨rfl, b1, hp1, hp2, hp3⟩; have HP : Hid (Mp wp w.heap.size 1 ((DataW.map [] : DataW Unit).put (.string wingB.data.toList) (.lit (.int .i64 (b1 : Nat)))) Fw) := hid hp2; clear hp2) | (go_at_call 9; (with_reducible refine Calls.mono (hGetS (h := w.heap.size + 1) (nm := ⟨#[119, 105, 110, 103]⟩) wing_size wing_fit HP.out Fw_wing) ?_); rintro e wg ⟨g2, cap2, rfl, hg1, hg2, hg3⟩) | (go_at_call 18; (with_reducible refine Calls.mono (hAt (h := w.heap.size + 1) (nm := ⟨#[119, 105, 110, 103]⟩) wing_size wing_fit (HP.out.below (Gr.out (v := wp) (W := wg.alloc (.cells #[.slice (some ⟨g2, 0, none⟩) 1 cap2] 29)))) Fw_wing) ?_); rintro e wt ⟨rfl, ht1⟩) | (go_at_call 11; have q4 := hSaveB (w := wt) (h := w.heap.size + 1) (HP.out.below (Gr.out (v := wp) (W := wt))) (by decide) (keys_wing b1) Fw_wing.out (VW.out wt Gr.out) (Nat.le_trans H10.out (Gr.out (v := w) (W := wt)).size); (with_reducible refine Calls.mono q4 ?_); clear q4; rintro e wv ⟨rfl, hv1⟩) | (go_at_call 14; (with_reducible refine Calls.mono (hLoad (h := wv.heap.size + 1) (m := wv.heap.size) (VW.out _ Gr.out) (Nat.le_trans H10.out (Gr.out (v := w) (W := (wv.alloc (.map #[] 0)).alloc (.cells #[.bool true, .int .i32 0, .int .u32 0, .map (some wv.heap.size)] 51))).size)) ?_); rintro e wl ⟨rfl, m2, b2, F2, hl1, hl2, hl3⟩) | (go_at_call 10; (with_reducible refine Calls.mono (hNames (h := wv.heap.size + 1) hl2 (by decide)) ?_); rintro e wN ⟨vN, ss, Bn, rfl, hn1, hn2, hn3⟩; obtain ⟨gn, capn, rfl, -, -⟩ := one_name (nm := wingB) hn1 (keys_wing b2) hn2))
  go_ret
  exact ⟨rfl, ⟨Gr.out⟩⟩
end
section
open Go.RowKit
open Go.ChangeShapes Go.WideShapes Go.RowKit Go.Stop
theorem own : ownKnob Tryz.prog.godebug = none := by kernel_rfl
theorem g_et : Tryz.prog.globalNamed "errors.errorType" = some 0 := by kernel_rfl
theorem g_es : Tryz.prog.globalNamed "strconv.ErrSyntax" = some 4 := by kernel_rfl
theorem g_er : Tryz.prog.globalNamed "strconv.ErrRange" = some 5 := by kernel_rfl
theorem g_db : Tryz.prog.globalNamed "math/bits.deBruijn64tab" = some 7 := by kernel_rfl
theorem t_es : (Tryz.prog.globals[4]?).map (·.type) = some 62 := by kernel_rfl
theorem t_er : (Tryz.prog.globals[5]?).map (·.type) = some 62 := by kernel_rfl
theorem t_db : (Tryz.prog.globals[7]?).map (·.type) = some 306 := by kernel_rfl
theorem t_pw : (Tryz.prog.globals[2]?).map (·.type) = some 255 := by kernel_rfl
theorem c_es : Tryz.prog.cellsOf 315 = 1 := by kernel_rfl
theorem c_9 : Tryz.prog.cellsOf 9 = 1 := by kernel_rfl
theorem c_5 : Tryz.prog.cellsOf 5 = 1 := by kernel_rfl
theorem c_u64 : Tryz.prog.cellsOf 113 = 1 := by kernel_rfl
theorem c_t64 : Tryz.prog.cellsOf 306 = 64 := by kernel_rfl
theorem c_t20 : Tryz.prog.cellsOf 255 = 20 := by kernel_rfl
theorem star : "*" ++ "errors.errorString" = "*errors.errorString" := by decide
theorem rowPE (u : TypeId) (h : Tryz.prog.typeName? 3 u = some "*errors.errorString") : u = 313 :=
  typeName_ptr_named (nm := "errors.errorString") (by rw [star]; kernel_rfl) (by kernel_rfl) (by decide) u (by rw [star]; exact h)
theorem rt : (Tryz.prog.cutTypes.find? (·.1 == "internal/reflectlite.rtype")).map (·.2) = some 179 := by kernel_rfl
theorem oneRow : ((List.range 357).filter fun t => Tryz.prog.rowNamed t [101, 114, 114, 111, 114]) = [62] := by kernel_rfl
theorem tsize : Tryz.prog.types.size = 357 := by kernel_rfl
def z64 : List Int := [0, 1, 56, 2, 57, 49, 28, 3, 61, 58, 42, 50, 38, 29, 17, 4, 62, 47, 59, 36, 45, 43, 51, 22, 53, 39, 33, 30, 24, 18, 12, 5, 63, 55, 48, 27, 60, 41, 37, 16, 46, 35, 44, 21, 52, 32, 23, 11, 54, 26, 40, 15, 34, 20, 31, 10, 25, 14, 19, 9, 13, 8, 7, 6]
/-- What is listed, but for the handle. -/
def plainLaid : List (String × DataW Unit) := [("math/bits.deBruijn32tab", Rows.laid_math_bits_deBruijn32tab), ("math/bits.deBruijn64tab", Rows.laid_math_bits_deBruijn64tab), ("internal/strconv.uint64pow10", Rows.laid_internal_strconv_uint64pow10), ("unicode/utf8.acceptRanges", Rows.laid_unicode_utf8_acceptRanges), ("strconv.ErrRange", Rows.laid_strconv_ErrRange), ("strconv.ErrSyntax", Rows.laid_strconv_ErrSyntax), ("unicode/utf8.first", Rows.laid_unicode_utf8_first)]
def allLaid : List (String × DataW Unit) := [("math/bits.deBruijn32tab", Rows.laid_math_bits_deBruijn32tab), ("math/bits.deBruijn64tab", Rows.laid_math_bits_deBruijn64tab), ("internal/strconv.uint64pow10", Rows.laid_internal_strconv_uint64pow10), ("unicode/utf8.acceptRanges", Rows.laid_unicode_utf8_acceptRanges), ("errors.errorType", Rows.laid_errors_errorType), ("strconv.ErrRange", Rows.laid_strconv_ErrRange), ("strconv.ErrSyntax", Rows.laid_strconv_ErrSyntax), ("unicode/utf8.first", Rows.laid_unicode_utf8_first)]
theorem laid_split {W : World} (h : laidMetH Tryz.prog allLaid W) : laidMet Tryz.prog plainLaid W ∧ handlesMet Tryz.prog [("errors.errorType", Rows.laid_errors_errorType)] W := by
  have e1 : (allLaid.filter fun x => x.2.handleName?.isSome) = [("errors.errorType", Rows.laid_errors_errorType)] := by kernel_rfl
  have e2 : (allLaid.filter fun x => x.2.handleName?.isNone) = plainLaid := by kernel_rfl
  unfold laidMetH at h
  rw [e1] at h
  simp only [e2] at h
  exact h
/-- What the statement's condition gives a walk. -/
theorem vars_of_laid {W : World} (h : laidMetH Tryz.prog allLaid W) : Vars W := by
  obtain ⟨hp, -⟩ := laid_split h
  have h1 := hp.tail
  have h2 := h1.tail
  have h3 := h2.tail
  have h4 := h3.tail
  have h5 := h4.tail
  refine ⟨?_, ?_, ?_, ?_⟩
  · obtain ⟨a, s, hv, -⟩ := laid_sentinel h5 g_es t_es Tryz.underlying62 rowPE Tryz.underlying313 Tryz.underlying315 rfl rfl Tryz.underlying9 c_es c_9
    exact ⟨_, _, by simpa using World.var?_cell g_es hv 0⟩
  · obtain ⟨a, s, hv, -⟩ := laid_sentinel h4 g_er t_er Tryz.underlying62 rowPE Tryz.underlying313 Tryz.underlying315 rfl rfl Tryz.underlying9 c_es c_9
    exact ⟨_, _, by simpa using World.var?_cell g_er hv 0⟩
  · have e : Rows.laid_math_bits_deBruijn64tab = Lib.tabData (H := Unit) .u8 z64 := by rfl
    have h1' : laidMet Tryz.prog (("math/bits.deBruijn64tab", Lib.tabData .u8 z64) :: plainLaid.tail.tail) W := by
      rw [← e]; exact h1
    have ht := Lib.tabIs_of_head g_db t_db Tryz.underlying306 Tryz.underlying5 c_5 c_t64 h1'
    exact ht.cell g_db 15 (by decide)
  · have e : Rows.laid_internal_strconv_uint64pow10 = Lib.tabData (H := Unit) .u64 Lib.pow10Tab := by kernel_rfl
    have h2' : laidMet Tryz.prog (("internal/strconv.uint64pow10", Lib.tabData .u64 Lib.pow10Tab) :: plainLaid.tail.tail.tail) W := by
      rw [← e]; exact h2
    exact Lib.tabIs_of_head tab_named t_pw Tryz.underlying255 Tryz.underlying113 c_u64 c_t20 h2'
/-- A world that meets the condition. -/
noncomputable def laidWorld (os : Os) : World :=
  let w0 := World.laidAll Tryz.prog os plainLaid
  { w0 with heap := w0.heap.modify 0 fun
      | .cells _ t frozen => .cells #[.iface 179 (.agg #[.pointer (some ⟨10, 62, none⟩)])] t frozen
      | o => o }
theorem laidWorld_met (os : Os) (args : Array Value) : laidMetH Tryz.prog allLaid ((laidWorld os).forCall (fun _ _ => 0) ⟨#[], args, []⟩).memory :=
  laidMetH_of_parts (laidMet_of_run' 8 (by kernel_rfl) (by kernel_rfl)) (by kernel_rfl)
end
section
open Go.RowKit
open Go.ChangeShapes Go.WideShapes Go.ChangeAt Go.RowKit
set_option maxRecDepth 100000
theorem kids : Kids Tryz.prog (· < Tryz.prog.types.size) := kids_rows (by kernel_rfl) (by kernel_rfl)
theorem full : ∀ t e, t < Tryz.prog.types.size → Tryz.prog.underlying t = some (.slice e) → 0 < Tryz.prog.cellsOf e := slices_full_of Tryz.prog (by kernel_rfl)
theorem open_turns {H : Type} {enc : TypeId × Value → H} {w : World} {base : Nat} {sp : Nat → Bool} {held : Bool} {r : Reach} {b0 : Nat} {v : Value} {d : DataW H} {ps : List MemPlace} (hval : Value.okWide Tryz.prog w r b0 22 v) (h : DataW.Trod enc Tryz.prog w base sp held 22 v d ps) :
    ∃ (a : Option Addr) (cap : Nat) (xs : List UInt8), v = .slice a xs.length cap ∧ (0 < xs.length → ∃ g off, a = some ⟨g, off, none⟩ ∧ g < w.heap.size ∧ ∀ j (h : j < xs.length), w.cell? ⟨g, off + j, none⟩ = some (.int .u8 ((xs[j]'h).toNat))) := by
  obtain ⟨a0, len0, cap0, rfl⟩ := okWide_slice Tryz.underlying22 hval
  obtain ⟨fuel, hf⟩ := h
  rcases open_ints Tryz.underlying22 Tryz.underlying5 c_5 hf with ⟨hcs, -⟩ | ⟨a, len, cap, zs, hcs, -, hlc, -, hzl, -, hz, hw⟩
  · simp [Value.cells] at hcs
    obtain ⟨rfl, rfl, rfl⟩ := hcs
    exact ⟨none, 0, [], rfl, fun h => by cases h⟩
  · simp [Value.cells] at hcs
    obtain ⟨rfl, rfl, rfl⟩ := hcs
    have hle : len0 ≤ zs.length := by rw [hzl]; split <;> omega
    have hlen : ((List.range len0).map fun i => UInt8.ofNat (zs.getD i 0).toNat).length = len0 := by rw [List.length_map, List.length_range]
    refine ⟨some a, cap0, (List.range len0).map fun i => UInt8.ofNat (zs.getD i 0).toNat, by rw [hlen], fun h0 => ?_⟩
    rw [hlen] at h0
    obtain ⟨b, off, spot⟩ := a
    have c0 := hz 0 (by omega)
    obtain rfl : spot = none := by
      have := World.cell?_spot (v := .int .u8 (zs.getD 0 0)) (a := (⟨b, off, spot⟩ : Addr).add 0) c0
      simpa [Addr.add] using this
    refine ⟨b, off, rfl, ?_, fun j hj => ?_⟩
    · exact World.block_lt_of_cell? _ _ c0
    · rw [hlen] at hj
      have cj := hz j (by omega)
      rw [Go.WideShapes.add_plain] at cj
      rw [cj]
      have hwf := hw (zs.getD j 0) (by rw [List.getD_eq_getElem?_getD, List.getElem?_eq_getElem (by omega)]; exact List.getElem_mem _)
      have hb := Go.bounds_u8 hwf
      have e : (((List.range len0).map fun i => UInt8.ofNat (zs.getD i 0).toNat)[j]'(by rw [hlen]; exact hj)) = UInt8.ofNat (zs.getD j 0).toNat := by simp
      rw [e]
      have e2 : ((UInt8.ofNat (zs.getD j 0).toNat).toNat : Int) = zs.getD j 0 := by
        rw [UInt8.toNat_ofNat']
        omega
      rw [e2]
theorem g_ar : Tryz.prog.globalNamed "unicode/utf8.acceptRanges" = some 9 := by kernel_rfl
theorem vars_ten {w : World} (h : laidMetH Tryz.prog allLaid w) : 10 ≤ w.heap.size := by
  obtain ⟨hp, -⟩ := laid_split h
  obtain ⟨g, t, cs, fuel, p, -, -, hv, -⟩ := Lib.laidMet.reads hp (n := "unicode/utf8.acceptRanges") (d := Rows.laid_unicode_utf8_acceptRanges) (.tail _ (.tail _ (.tail _ (.head _))))
  rcases Nat.lt_or_ge w.heap.size 10 with h | h
  · exfalso
    simp only [World.var?, g_ar, Option.bind_some] at hv
    rw [Array.getElem?_eq_none (by omega)] at hv
    cases hv
  · exact h
set_option maxRecDepth 100000 in
set_option maxHeartbeats 4000000 in
theorem houseCrowd_lifted (os : Os) (started : os.Started) (H : Type) (enc : TypeId × Value → H) :
    ReturnsInHanded {} Tryz.checked os 3 .any (fun w args => (Rows.houseCrowdSpec.pre enc Tryz.prog Tryz.f3 [] false w args ∧ laidMetH Tryz.prog Rows.houseCrowdRow.laid w) ∧ sizedMet enc Tryz.prog Tryz.f3 (OpenSpec.ofChange Rows.houseCrowdSpec) false w args)
      (Rows.houseCrowdSpec.post enc Tryz.prog Tryz.f3 false true false false) := by
  refine returnsInHanded_of_change_and (C := Tryz.checked) (X := fun w _ => laidMetH Tryz.prog Rows.houseCrowdRow.laid w) (fun _ _ _ hh h => h.of_heap hh) own started (by kernel_rfl) Tryz.func3
    (ChangeSpec.witness_at (enc := enc) (C := Tryz.checked) (os := os) (X := fun w _ => laidMetH Tryz.prog Rows.houseCrowdRow.laid w) false (laidWorld os) #[.slice none 0 0] 8 rfl (by kernel_rfl) (by kernel_rfl) (by kernel_rfl) (by kernel_rfl) (by kernel_rfl) (laidWorld_met os _)) ?_
  intro W base args ds gs before hval0 hW hsz _ hL hheap
  have hval : ∀ (j : Nat) t v, Tryz.f3.params[j]? = some t → args[j]? = some v → Value.okWide Tryz.prog W .any base t v := hval0
  have hW' := hW
  have hlt := fun p hp => hW.lt p hp
  obtain ⟨p, q, hA0, hV0, rfl, hfz, hnd⟩ := hW
  have hA : DataW.TrodAll enc Tryz.prog W 0 (fun _ => true) true Tryz.f3.params.toList args.toList ds p := hA0
  have hV : DataW.TrodVars enc Tryz.prog W (fun _ => true) [] gs q := hV0
  rw [Tryz.params3] at hA hval
  obtain ⟨v0, d0, rfl, rfl, h0⟩ := trodAll_one hA
  obtain ⟨a, cap, xs, rfl, hxs⟩ := open_turns (hval 0 22 v0 rfl rfl) h0
  have hVars := vars_of_laid hL
  obtain ⟨rfl, rfl⟩ := trodVars_none hV
  have h10 : 10 ≤ W.heap.size := vars_ten hL
  refine (hCrowd xs rfl hxs (fun W2 hb => hAlive (hVars.keep (Keeps.of_below (S := []) hb) h10 (by simp)) (Nat.le_trans h10 hb.size))).mono fun e W' ⟨he, hk⟩ => ?_
  subst he
  have hb := hk.out
  simp only [List.append_nil] at hW' hlt
  have hold : ∀ p' ∈ p, (fun b => decide (b < W.heap.size)) p'.block = true := fun p' hp => by simpa using hlt p' (by simpa using hp)
  have hr : DataW.Trod enc Tryz.prog W' 0 (fun b => decide (b < W.heap.size)) true 22 (.slice a xs.length cap) d0 p := by
    obtain ⟨fuel, hf⟩ := DataW.Trod.respare (spare' := fun b => decide (b < W.heap.size)) kids full (show (22 : Nat) < Tryz.prog.types.size from of_decide_eq_true (by kernel_rfl)) h0 hold
    refine ⟨fuel, DataW.trod_carry _ _ _ _ hf (fun p' hp => ?_)⟩
    have hk : W'.heap[p'.block]? = W.heap[p'.block]? := hb.block _ (by simpa using hold p' hp)
    cases p' with
    | cell b off => exact World.cell?_of_block (w := W) hk
    | map b => exact hk
  refine ⟨_, rfl, _, _, _, [], p, [], hW', (trodAll_mk1 (shut_bool Tryz.underlying4 true)), trodAll_mk1 hr, rfl, World.keptBut_mono (fun p' hp => ⟨hp, ?_⟩) (hb.frame (· ∈ p)), fun h => by cases h⟩
  simpa using hp
theorem houseCrowd_over : Rows.HouseCrowdSaid :=
  OpenClaim.holds_of_wide 3 Tryz.f3 rfl rfl rfl rfl rfl rfl rfl ⟨rfl, rfl, rfl, rfl, rfl⟩ rfl rfl rfl rfl rfl (by kernel_rfl) Tryz.func3 (by kernel_rfl)
    (of_decide_eq_true (by kernel_rfl)) (by unfold Func.isWrapper; first | (rw [if_pos (by decide +kernel)]; kernel_rfl) | (rw [if_neg (by decide +kernel)]; exact ⟨rfl, rfl⟩))
    (fun os started H enc _ => houseCrowd_lifted os started H enc)
theorem houseCrowd_holds : Rows.HouseCrowdCardSaid :=
  Claim7.holds_tied_plain_at .later [] [.data, .data, .data, .data, .handle, .sentinel, .sentinel, .pinned] true (true, "567cd9a5c66934aa37be68bd4db66407864e1ff49161a0b7fa14f1cec2a76243") true
    houseCrowd_over (fun _ h => by cases h) (by kernel_rfl) (fun _ h => by cases h) houseCrowd_row_tie rfl ⟨rfl, rfl⟩ (by kernel_rfl) rfl
    (fun f fn hf hfn => by
      obtain rfl : f = 3 := Option.some.inj ((show Tryz.prog.funcNamed "eddy/eddylaw31.HouseCrowd" = some 3 by kernel_rfl).symm.trans hf) |>.symm
      obtain rfl : fn = Tryz.f3 := (Option.some.inj (Tryz.func3.symm.trans hfn)).symm
      exact ⟨by kernel_rfl, fun j t ht => by
        rw [Tryz.params3] at ht
        have h3 : t = 22 := by
          rcases j with _ | j
          · simpa using ht.symm
          · simp at ht
        subst h3
        exact (show Tryz.prog.wantsStandIn 22 = false by kernel_rfl)⟩)
    (by kernel_rfl)
end
end Go.Proofs.YtmjpfoninpbgiaaGreatDoor
