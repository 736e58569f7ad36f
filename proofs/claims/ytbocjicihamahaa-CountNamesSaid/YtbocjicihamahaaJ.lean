/- The walk over a piece, of the given program: what the closure that calls itself does. -/
import Derived.Test.YtbocjicihamahaaI
import Derived.Deep.AppendLies
import Derived.Deep.RegionLaw
set_option linter.unusedSimpArgs false
set_option linter.unusedVariables false
namespace Go.Proofs.Ytbocjicihamahaa
open Go.RowKit

/-- Below block number B nothing has turned but block p. -/
structure Only (B p : Nat) (w w' : World) : Prop where
  os : w'.os = w.os
  tape : w'.tape = w.tape
  output : w'.output = w.output
  size : w.heap.size ≤ w'.heap.size
  block : ∀ k, k < B → k ≠ p → w'.heap[k]? = w.heap[k]?
theorem Only.refl (B p : Nat) (w : World) : Only B p w w := ⟨rfl, rfl, rfl, Nat.le_refl _, fun _ _ _ => rfl⟩
theorem Only.trans {B p : Nat} {a b c : World} (h : Only B p a b) (k : Only B p b c) : Only B p a c :=
  ⟨k.os.trans h.os, k.tape.trans h.tape, k.output.trans h.output, Nat.le_trans h.size k.size, fun i hi hp => (k.block i hi hp).trans (h.block i hi hp)⟩
theorem Only.mono {B B' p : Nat} {w w' : World} (h : Only B p w w') (hB : B' ≤ B) : Only B' p w w' := ⟨h.os, h.tape, h.output, h.size, fun k hk => h.block k (Nat.lt_of_lt_of_le hk hB)⟩
theorem Only.of_below {B p : Nat} {w w' : World} (h : Below B w w') : Only B p w w' := ⟨h.os, h.tape, h.output, h.size, fun k hk _ => h.block k hk⟩
theorem Only.drew {B p : Nat} {a w : World} (h : Only B p a w) : Only B p a w.drew := ⟨h.os, h.tape, h.output, h.size, h.block⟩
theorem Only.alloc {B p : Nat} {a w : World} (h : Only B p a w) (hB : B ≤ w.heap.size) (o : Obj) : Only B p a (w.alloc o) :=
  h.trans ⟨rfl, rfl, rfl, by simp, fun k hk _ => Below.heap_alloc _ _ _ (by omega)⟩
theorem Only.plus {B p : Nat} {a w : World} (h : Only B p a w) (hB : B ≤ w.heap.size) (os : Array Obj) (d : Nat) : Only B p a (w.plus os d) :=
  h.trans ⟨rfl, rfl, rfl, by simp, fun k hk _ => block_plus _ _ _ _ (by omega)⟩
theorem Only.put {B p : Nat} {a w : World} (h : Only B p a w) (o : Nat) (v : Value) : Only B p a (w.setCell ⟨p, o, none⟩ v) :=
  h.trans ⟨rfl, rfl, rfl, by simp [World.setCell], fun k _ hp => Below.heap_setCell _ _ _ _ hp⟩
theorem Only.set {B p : Nat} {a w : World} {q : Addr} (h : Only B p a w) (hq : B ≤ q.block) (v : Value) : Only B p a (w.setCell q v) :=
  h.trans ⟨rfl, rfl, rfl, by simp [World.setCell], fun k hk _ => Below.heap_setCell _ _ _ _ (by omega)⟩
theorem Only.grown {B p : Nat} {a w w' : World} {row : Option Nat} (h : Only B p a w) (hg : w.grownBy w' row) (hB : B ≤ w.heap.size) (hr : ∀ k, row = some k → B ≤ k) : Only B p a w' :=
  h.trans ⟨hg.os, hg.tape, hg.output, hg.size, fun k hk _ => hg.block k (by omega) (fun e => by have := hr k e.symm; omega)⟩
theorem Only.cell {B p : Nat} {w w' : World} (h : Only B p w w') {q : Addr} (hq : q.block < B) (hn : q.block ≠ p) : w'.cell? q = w.cell? q := World.cell?_of_block (w := w) (h.block q.block hq hn)
/-- The walk of a polynomial as it lies in memory: how many pieces were looked at, and the leans. -/
structure Walk (w : World) (B pb : Nat) (ls : Value) (n : Nat) (v : Value) (ks : List Int) : Prop where
  blk : w.heap[pb]? = some (.cells #[ls, .int .i64 n, v] 48 (0, 0))
  own : w.ownsRow B 3 1 v ks.length (ks.map (Value.int .i64))
  low : pb < B
  top : B ≤ w.heap.size
/-- Where a piece's enclosure leans; -1: nowhere, or there is none. -/
def leanOf (l : List Pl) (p q : Pl) : Option Int :=
  if cfin p.1 p.2 = true ∧ cfin q.1 q.2 = true then
    (polyS l ((fminS p.1 q.1, fminS p.2 q.2), (fmaxS p.1 q.1, fmaxS p.2 q.2))).bind fun v => some (if v.2 = 0 then leanS v.1 else -1)
  else none
/-- The middle of a piece. -/
def midS (p q : Pl) : Option Pl :=
  (fdiv p.1 4611686018427387904).bind fun a => (fdiv q.1 4611686018427387904).bind fun b => (fadd a b).bind fun x =>
  (fdiv p.2 4611686018427387904).bind fun c => (fdiv q.2 4611686018427387904).bind fun e => (fadd c e).bind fun y => some (x, y)
/-- The walk over a piece: is it sure? the pieces, the leans. -/
def halfS (l : List Pl) : Nat → Pl → Pl → Nat → List Int → Option (Bool × Nat × List Int)
  | 0, p, q, n, ks =>
    if n = 16384 then some (false, n, ks)
    else (leanOf l p q).bind fun k => if 0 ≤ k then some (true, n + 1, ks ++ [k]) else (midS p q).bind fun _ => some (false, n + 1, ks)
  | d + 1, p, q, n, ks =>
    if n = 16384 then some (false, n, ks)
    else (leanOf l p q).bind fun k => if 0 ≤ k then some (true, n + 1, ks ++ [k]) else (midS p q).bind fun m =>
      if clike m.1 m.2 p.1 p.2 = true then some (false, n + 1, ks)
      else if clike m.1 m.2 q.1 q.2 = true then some (false, n + 1, ks)
      else (halfS l d p m (n + 1) ks).bind fun r => if r.1 = true then halfS l d m q r.2.1 r.2.2 else some r
/-- What is done behind the middle. -/
def endS (l : List Pl) : Nat → Pl → Pl → Pl → Nat → List Int → Option (Bool × Nat × List Int)
  | 0, _, _, _, n, ks => some (false, n + 1, ks)
  | d + 1, p, m, q, n, ks =>
      if clike m.1 m.2 p.1 p.2 = true then some (false, n + 1, ks)
      else if clike m.1 m.2 q.1 q.2 = true then some (false, n + 1, ks)
      else (halfS l d p m (n + 1) ks).bind fun r => if r.1 = true then halfS l d m q r.2.1 r.2.2 else some r
theorem halfS_eq (l : List Pl) (d : Nat) (p q : Pl) (n : Nat) (ks : List Int) : halfS l d p q n ks =
    if n = 16384 then some (false, n, ks)
    else (leanOf l p q).bind fun k => if 0 ≤ k then some (true, n + 1, ks ++ [k]) else (midS p q).bind fun m => endS l d p m q n ks := by
  cases d <;> rfl
theorem reads_of {w W : World} {b off : Nat} {l : List Pl} (h : ∀ o, W.cell? ⟨b, o, none⟩ = w.cell? ⟨b, o, none⟩) (hr : reads w b off l) : reads W b off l := fun i hi => (h _).trans (hr i hi)
theorem own_only {w wx : World} {B pb : Nat} {v : Value} {n : Nat} {xs : List Value} (h : w.ownsRow B 3 1 v n xs) (hO : Only w.heap.size pb w wx) (hp : pb < B) : wx.ownsRow B 3 1 v n xs := by
  refine h.kept (row := some pb) ⟨hO.os, hO.tape, hO.output, hO.size, fun k hk hne => hO.block k hk (fun e => hne (by rw [e]))⟩ (Or.inr ?_)
  intro e
  have := h.lt pb e
  omega
theorem own_ne {w : World} {B : Nat} {v : Value} {n : Nat} {xs : List Value} (h : w.ownsRow B 3 1 v n xs) (k : Nat) (hk : k < B) : some k ≠ v.ownBlock := by
  intro e
  have := h.lt k e.symm
  omega
theorem walk_more {wa : World} {B pb : Nat} {ls v : Value} {n : Nat} {ks : List Int} {kk : Int} {gg cp : Nat} (bp : wa.heap[pb]? = some (.cells #[ls, .int .i64 (n + 1), v] 48 (0, 0)))
    (ho : wa.ownsRow B 3 1 (.slice (some ⟨gg, 0, none⟩) (ks.length + 1) cp) (ks.length + 1) (ks.map (Value.int .i64) ++ [.int .i64 kk])) (low : pb < B) (top : B ≤ wa.heap.size) :
    Walk (wa.setCell ⟨pb, 2, none⟩ (.slice (some ⟨gg, 0, none⟩) (ks.length + 1) cp)) B pb ls (n + 1) (.slice (some ⟨gg, 0, none⟩) (ks.length + 1) cp) (ks ++ [kk]) := by
  refine ⟨?_, ?_, low, by rw [World.size_setCell]; exact top⟩
  · have h := set_of_block bp 2 (.slice (some ⟨gg, 0, none⟩) (ks.length + 1) cp)
    rw [h]
    rfl
  · have h := ownsRow_setCell_below ho (a := ⟨pb, 2, none⟩) low (.slice (some ⟨gg, 0, none⟩) (ks.length + 1) cp)
    simpa using h
theorem endS_zero (l : List Pl) (p m q : Pl) (n : Nat) (ks : List Int) {d : Nat} (h : d = 0) : endS l d p m q n ks = some (false, n + 1, ks) := by subst h; rfl
theorem endS_succ (l : List Pl) (p m q : Pl) (n : Nat) (ks : List Int) {d d' : Nat} (h : d = d' + 1) : endS l d p m q n ks =
      if clike m.1 m.2 p.1 p.2 = true then some (false, n + 1, ks)
      else if clike m.1 m.2 q.1 q.2 = true then some (false, n + 1, ks)
      else (halfS l d' p m (n + 1) ks).bind fun r => if r.1 = true then halfS l d' m q r.2.1 r.2.2 else some r := by subst h; rfl
theorem walk_keep {w W : World} {B pb : Nat} {ls v : Value} {n : Nat} {ks : List Int} (ho : w.ownsRow B 3 1 v ks.length (ks.map (Value.int .i64))) (hb : W.heap[pb]? = some (.cells #[ls, .int .i64 (n + 1), v] 48 (0, 0)))
    (hO : Only w.heap.size pb w W) (low : pb < B) (top : B ≤ w.heap.size) : Walk W B pb ls (n + 1) v ks :=
  ⟨hb, own_only ho hO low, low, Nat.le_trans top hO.size⟩
theorem halfS_bd (l : List Pl) : ∀ (d : Nat) (p q : Pl) (n : Nat) (ks : List Int) (r : Bool × Nat × List Int), n ≤ 16384 → ks.length ≤ n → halfS l d p q n ks = some r → r.2.1 ≤ 16384 ∧ r.2.2.length ≤ r.2.1 := by
  intro d
  induction d with
  | zero =>
    intro p q n ks r hn hk h
    rw [halfS_eq] at h
    split at h
    · cases h; exact ⟨hn, hk⟩
    · obtain ⟨k, _, h⟩ := bind_some h
      split at h
      · cases h; exact ⟨by show n + 1 ≤ 16384; omega, by simp; omega⟩
      · obtain ⟨m, _, h⟩ := bind_some h
        cases h; exact ⟨by show n + 1 ≤ 16384; omega, by show ks.length ≤ n + 1; omega⟩
  | succ d ih =>
    intro p q n ks r hn hk h
    rw [halfS_eq] at h
    split at h
    · cases h; exact ⟨hn, hk⟩
    · obtain ⟨k, _, h⟩ := bind_some h
      split at h
      · cases h; exact ⟨by show n + 1 ≤ 16384; omega, by simp; omega⟩
      · obtain ⟨m, _, h⟩ := bind_some h
        simp only [endS] at h
        split at h
        · cases h; exact ⟨by show n + 1 ≤ 16384; omega, by show ks.length ≤ n + 1; omega⟩
        · split at h
          · cases h; exact ⟨by show n + 1 ≤ 16384; omega, by show ks.length ≤ n + 1; omega⟩
          · obtain ⟨r1, h1, h2⟩ := bind_some h
            have b1 := ih p m (n + 1) ks r1 (by omega) (by omega) h1
            split at h2
            · exact ih m q _ _ r b1.1 b1.2 h2
            · cases h2; exact b1
theorem Try.info3 : (Try.prog.info? 3).map (fun i => (i.zero, i.size, i.bytes)) = some (some (.int .i64 0), 1, 8) := by kernel_rfl
/-- What a walk over a piece leaves as it was: all but the walk itself and the leans' own row. -/
structure Kept (w : World) (pb : Nat) (v : Value) (w' : World) (v' : Value) : Prop where
  os : w'.os = w.os
  tape : w'.tape = w.tape
  output : w'.output = w.output
  size : w.heap.size ≤ w'.heap.size
  block : ∀ k, k < w.heap.size → k ≠ pb → some k ≠ v.ownBlock → w'.heap[k]? = w.heap[k]?
  own : v'.ownBlock = v.ownBlock ∨ ∀ g, v'.ownBlock = some g → w.heap.size ≤ g
theorem Kept.of_only {w w' : World} {pb : Nat} {v : Value} (h : Only w.heap.size pb w w') : Kept w pb v w' v := ⟨h.os, h.tape, h.output, h.size, fun k hk hp _ => h.block k hk hp, .inl rfl⟩
theorem Kept.ne {w w' : World} {pb : Nat} {v v' : Value} (h : Kept w pb v w' v') {k : Nat} (hk : k < w.heap.size) (hv : some k ≠ v.ownBlock) : some k ≠ v'.ownBlock := by
  intro e
  rcases h.own with h1 | h1
  · exact hv (e.trans h1)
  · have := h1 k e.symm
    omega
theorem Kept.trans {a b c : World} {pb : Nat} {u v x : Value} (h : Kept a pb u b v) (k : Kept b pb v c x) : Kept a pb u c x := by
  refine ⟨k.os.trans h.os, k.tape.trans h.tape, k.output.trans h.output, Nat.le_trans h.size k.size, fun i hi hp hu => (k.block i (Nat.lt_of_lt_of_le hi h.size) hp (h.ne hi hu)).trans (h.block i hi hp hu), ?_⟩
  rcases k.own with k1 | k1
  · rcases h.own with h1 | h1
    · exact .inl (k1.trans h1)
    · exact .inr fun g hg => h1 g (k1.symm.trans hg)
  · exact .inr fun g hg => Nat.le_trans h.size (k1 g hg)
theorem Kept.cell {w w' : World} {pb : Nat} {v v' : Value} (h : Kept w pb v w' v') {q : Addr} (hq : q.block < w.heap.size) (hn : q.block ≠ pb) (hv : some q.block ≠ v.ownBlock) : w'.cell? q = w.cell? q := World.cell?_of_block (w := w) (h.block q.block hq hn hv)
theorem kept_more {w W wa : World} {pb gg n cp H : Nat} {v : Value} (hO : Only w.heap.size pb w W) (hg : W.grownBy wa v.ownBlock) (hat : v.ownBlock = some gg ∨ gg = H) (hH : w.heap.size ≤ H) :
    Kept w pb v (wa.setCell ⟨pb, 2, none⟩ (.slice (some ⟨gg, 0, none⟩) n cp)) (.slice (some ⟨gg, 0, none⟩) n cp) := by
  refine ⟨hg.os.trans hO.os, hg.tape.trans hO.tape, hg.output.trans hO.output, ?_, fun k hk hp hv => ?_, ?_⟩
  · rw [World.size_setCell]; exact Nat.le_trans hO.size hg.size
  · rw [block_ne _ _ _ _ _ hp, hg.block k (Nat.lt_of_lt_of_le hk hO.size) hv, hO.block k hk hp]
  · rcases hat with h | h
    · exact .inl h.symm
    · refine .inr fun g hgg => ?_
      simp only [Value.ownBlock, Option.some.injEq] at hgg
      omega
def unsureV : List PanicEntry := [{ v := .iface 59 (.agg #[]), recovered := false }]
def halfEnd (ok : Bool) : Ending := if ok then .returned (.tuple #[]) else .panicked unsureV

/-- What a walk over a piece comes to. -/
def HalfPost (B pb : Nat) (ls v : Value) (w : World) (r : Bool × Nat × List Int) (e : Ending) (w' : World) : Prop :=
  e = halfEnd r.1 ∧ ∃ v', Walk w' B pb ls r.2.1 v' r.2.2 ∧ Kept w pb v w' v'
/-- The contract of the closure at one depth. -/
def HalfC (l : List Pl) (b off cap B pb cw ch : Nat) (d : Nat) : Prop :=
  ∀ (p q : Pl) (n : Nat) (ks : List Int) (v : Value) (w : World) (r : Bool × Nat × List Int),
    n ≤ 16384 → ks.length ≤ n → b < w.heap.size → some cw ≠ v.ownBlock → some ch ≠ v.ownBlock → some b ≠ v.ownBlock →
    Walk w B pb (.slice (some ⟨b, off, none⟩) l.length cap) n v ks → reads w b off l → w.cell? ⟨cw, 0, none⟩ = some (.pointer (some ⟨pb, 0, none⟩)) →
    w.cell? ⟨ch, 0, none⟩ = some (.func (.func 46) #[] #[.pointer (some ⟨cw, 0, none⟩), .pointer (some ⟨ch, 0, none⟩)]) →
    halfS l d p q n ks = some r →
    Calls Try.prog 46 #[.complex .f64 p.1 p.2, .complex .f64 q.1 q.2, .int .i64 d, .pointer (some ⟨cw, 0, none⟩), .pointer (some ⟨ch, 0, none⟩)] w
      (HalfPost B pb (.slice (some ⟨b, off, none⟩) l.length cap) v w r)
set_option maxRecDepth 100000 in
set_option maxHeartbeats 2000000 in
theorem half_step (l : List Pl) (b off cap B pb cw ch : Nat) (hbp : b ≠ pb) (hwp : cw ≠ pb) (hhp : ch ≠ pb) (dp : Nat) (hd : dp ≤ 24)
    (ih : ∀ d', dp = d' + 1 → HalfC l b off cap B pb cw ch d') : HalfC l b off cap B pb cw ch dp := by
  intro p q n ks v w r hn hk hbw vcw vch vbb hW hrd hcw hch h
  have lcw : cw < w.heap.size := World.block_lt_of_cell? _ _ hcw
  have lch : ch < w.heap.size := World.block_lt_of_cell? _ _ hch
  rw [halfS_eq] at h
  have hW0 := hid hW
  obtain ⟨blk, own, low, top⟩ := hW
  have hp := lt_of_block blk
  have w0 := cell_of_block blk 0
  have w1 := cell_of_block blk 1
  have w2 := cell_of_block blk 2
  have f1 := free_of_block blk 1
  have f2 := free_of_block blk 2
  simp at w0 w1 w2
  haveI : Has w pb := ⟨hp⟩
  haveI : Has w cw := ⟨lcw⟩
  haveI : Has w ch := ⟨lch⟩
  haveI : Has w b := ⟨hbw⟩
  have BLK := hid blk
  have OWN := hid own
  have RD := hid hrd
  have IH := hid ih
  clear blk own hrd ih
  have nwp : ¬ (pb = cw) := fun h => hwp h.symm
  have nhp : ¬ (pb = ch) := fun h => hhp h.symm
  have nbp : ¬ (pb = b) := fun h => hbp h.symm
  have HW := hid hwp
  have HH := hid hhp
  have HBP := hid hbp
  clear hwp hhp hbp
  by_cases h0 : n = 16384
  · rw [if_pos h0] at h
    cases h
    have e0 : ((n : Int) == 16384) = true := by simp; omega
    have N0 := hid h0
    clear h0
    go_enter Try.func46, Try.ntmps46
    go_wp2
    exact ⟨rfl, rfl, v, hW0.out, Kept.of_only (Only.refl _ _ _)⟩
  · rw [if_neg h0] at h
    have e0 : ((n : Int) == 16384) = false := by simp; omega
    have hn1 : (n : Int) + 1 ≤ 16384 := by omega
    clear h0
    obtain ⟨k, hk1, h2⟩ := bind_some h
    clear h
    unfold leanOf at hk1
    by_cases hfin : cfin p.1 p.2 = true ∧ cfin q.1 q.2 = true
    case neg => rw [if_neg hfin] at hk1; cases hk1
    rw [if_pos hfin] at hk1
    obtain ⟨vb, hv, hk2⟩ := bind_some hk1
    clear hk1
    obtain ⟨hf1, hf2⟩ := hfin
    have HV := hid hv
    have HK := hid hk2
    have H2 := hid h2
    clear hv hk2 h2
    go_enter Try.func46, Try.ntmps46
    go_upto_region 5 with (go_at_call 47; refine (make_fin _ _ _ _ _ hf1 hf2).mono ?_; rintro e wq ⟨rfl, hb⟩; obtain ⟨os, d, rfl⟩ := plus_of_below hb; clear hb)
    go_cut [10, 11] (fun s10 s11 wx => ∃ g : Nat, s10 = .pointer (some ⟨g, 0, none⟩) ∧ s11 = .int .i64 vb.2 ∧ wx.cell? ⟨g, 0, none⟩ = some (.complex .f64 vb.1.1.1 vb.1.1.2) ∧ wx.cell? ⟨g, 1, none⟩ = some (.complex .f64 vb.1.2.1 vb.1.2.2) ∧ wx.heap[pb]? = some (.cells #[.slice (some ⟨b, off, none⟩) l.length cap, .int .i64 (n + 1), v] 48 (0, 0)) ∧ w.heap.size ≤ g ∧ Only w.heap.size pb w wx)
    case first =>
      go_region_held3 (fun W => W.cell? ⟨cw, 0, none⟩ = some (.pointer (some ⟨pb, 0, none⟩)) ∧ W.cell? ⟨pb, 0, none⟩ = some (.slice (some ⟨b, off, none⟩) l.length cap) ∧ W.cell? ⟨w.heap.size + os.size, 0, none⟩ = some (.complex .f64 (fminS p.1 q.1) (fminS p.2 q.2)) ∧ W.cell? ⟨w.heap.size + os.size, 1, none⟩ = some (.complex .f64 (fmaxS p.1 q.1) (fmaxS p.2 q.2))) (refine ⟨?_, ?_, ?_, ?_⟩ <;> (simp [go_sem, hcw, w0, nwp]; done)) (first | (go_at_call 48; ((with_reducible refine (poly_any l _ vb b off cap _ (reads_of (fun o => by simp [go_sem, nbp]) RD.out) (by simp; omega) HV.out).mono ?_); rintro e wq ⟨rfl, hb⟩); obtain ⟨os, d, rfl⟩ := plus_of_below hb; clear hb))
      all_goals
        go_wp2_with fail
        go_meet
        refine ⟨_, rfl, rfl, ?_, ?_, ?_, ?_, ?_⟩
        · simp [go_sem]
        · simp [go_sem]
        · simp only [block_plus', block_alloc', block_drew]
          exact set_of_block BLK.out 1 _
        · first | omega | (simp; omega)
        · (repeat' (first | exact Only.refl _ _ _ | (refine Only.alloc ?_ ?_ _) | (refine Only.plus ?_ ?_ _ _) | (refine Only.drew ?_) | (refine Only.put ?_ _ _) | (refine Only.set ?_ ?_ _) | assumption | omega | (simp; done) | (simp; omega)))
    case rest =>
      obtain ⟨g, rfl, rfl, g0, g1, blk, hgw, hO⟩ := hcut
      haveI : Has wc pb := ⟨lt_of_block blk⟩
      haveI : Has wc cw := ⟨by have := hO.size; omega⟩
      haveI : Has wc ch := ⟨by have := hO.size; omega⟩
      haveI : Has wc b := ⟨by have := hO.size; omega⟩
      have cw1 : wc.cell? ⟨cw, 0, none⟩ = some (.pointer (some ⟨pb, 0, none⟩)) := (hO.cell (by show cw < _; omega) HW.out).trans hcw
      have ch1 : wc.cell? ⟨ch, 0, none⟩ = some (.func (.func 46) #[] #[.pointer (some ⟨cw, 0, none⟩), .pointer (some ⟨ch, 0, none⟩)]) := (hO.cell (by show ch < _; omega) HH.out).trans hch
      have rd1 : ∀ o, wc.cell? ⟨b, o, none⟩ = w.cell? ⟨b, o, none⟩ := fun o => hO.cell (by show b < _; omega) HBP.out
      have RD1 := hid rd1
      clear rd1 hcw hch w0 w1 w2 f1 f2
      have c0 := cell_of_block blk 0
      have c1 := cell_of_block blk 1
      have c2 := cell_of_block blk 2
      have f1 := free_of_block blk 1
      have f2 := free_of_block blk 2
      simp at c0 c1 c2
      have BLK1 := hid blk
      clear blk
      have hk2 := HK.out
      by_cases hv0 : vb.2 = 0
      · rw [if_pos hv0] at hk2
        injection hk2 with hk3
        clear HK
        have ev : (vb.2 == 0) = true := by simp [hv0]
        clear hv0
        by_cases hk0 : 0 ≤ leanS vb.1
        · have h3 := H2.out
          rw [← hk3, if_pos hk0] at h3
          cases h3
          clear H2 hk3
          have ek : decide (leanS vb.1 ≥ 0) = true := decide_eq_true hk0
          generalize hkk : leanS vb.1 = kk at ek hk0
          have KK := hid hkk
          clear hkk
          have nv1 := vcw
          have nv2 := own_ne OWN.out pb low
          go_upto_region 9 with (go_at_call 49; refine (lean_any vb.1 _).mono ?_; rintro e wq ⟨rfl, hb⟩; obtain ⟨os, d, rfl⟩ := plus_of_below hb; clear hb; try rw [KK.out])
          obtain ⟨i0, hi0, hz0, hz1, hz2⟩ := info_parts Try.info3
          have hsz := hO.size
          go_region_law ((refine step_append_lies _ (by rfl) _ _ _ (by rfl) B 3 i0 _ 1 8 Try.underlying38 hi0 hz0 hz1 hz2 rfl (by omega) v ks.length (ks.map (Value.int .i64)) (by rfl) (by exact own_only OWN.out (hO.trans (by (repeat' (first | exact Only.refl _ _ _ | (refine Only.alloc ?_ ?_ _) | (refine Only.plus ?_ ?_ _ _) | (refine Only.drew ?_) | (refine Only.put ?_ _ _) | (refine Only.set ?_ ?_ _) | assumption | omega | (simp; done) | (simp; omega))))) low) ⟨wc.heap.size + os.size, 0, none⟩ 1 1 [.int .i64 kk] (by rfl) (by rfl) (World.news_of_block (cs := #[.int .i64 kk]) (t := 3) (fr := (0, 0)) (by simp only [block_drew, block_at])) (by simp [Value.oneCell']) (by omega) (by unfold maxLen; omega) (by omega) (by simp; omega) (wc.heap.size + os.size + 1) (by simp) ?_; intro gg cp wa hown1 hgrow hat hlt; have bp := (hgrow.block pb (by simp; omega) nv2).trans (by simp only [block_drew, block_alloc', block_plus']; exact BLK1.out); have cc2 := cell_of_block bp 2; have ff2 := free_of_block bp 2; simp at cc2; have ccw : wa.cell? ⟨cw, 0, none⟩ = some (.pointer (some ⟨pb, 0, none⟩)) := hgrow.cell (by simp [go_sem, cw1]) nv1))
          all_goals
            go_wp2_with fail
            refine bodyPost_ret (results_none rfl _ _ _) rfl ⟨rfl, _, by rw [KK.out]; exact walk_more bp hown1 low (by have := hgrow.size; simp at this; omega), ?_⟩
            refine kept_more ?_ hgrow hat (by omega)
            (repeat' (first | exact Only.refl _ _ _ | (refine Only.alloc ?_ ?_ _) | (refine Only.plus ?_ ?_ _ _) | (refine Only.drew ?_) | (refine Only.put ?_ _ _) | (refine Only.set ?_ ?_ _) | assumption | omega | (simp; done) | (simp; omega)))
        · have h3 := H2.out
          rw [← hk3, if_neg hk0] at h3
          have ek : decide (leanS vb.1 ≥ 0) = false := decide_eq_false hk0
          clear hk3
          generalize hkk : leanS vb.1 = kk at ek hk0
          have KK := hid hkk
          clear hkk hk0
          obtain ⟨m, hm, he⟩ := bind_some h3
          clear h3 H2
          unfold midS at hm
          obtain ⟨xa, ha, hm1⟩ := bind_some hm
          obtain ⟨xb, hb', hm2⟩ := bind_some hm1
          obtain ⟨x, hx, hm3⟩ := bind_some hm2
          obtain ⟨ya, hya, hm4⟩ := bind_some hm3
          obtain ⟨yb, hyb, hm5⟩ := bind_some hm4
          obtain ⟨y, hy, hm6⟩ := bind_some hm5
          cases hm6
          clear hm hm1 hm2 hm3 hm4 hm5
          have r1 := run_fdiv ha
          have r2 := run_fdiv hb'
          have r3 := run_fadd hx
          have r4 := run_fdiv hya
          have r5 := run_fdiv hyb
          have r6 := run_fadd hy
          clear ha hb' hx hya hyb hy
          have hsz := hO.size
          have hcast : ((n + 1 : Nat) : Int) = (n : Int) + 1 := by omega
          have CAST := hid hcast
          clear hcast
          by_cases hdp : dp = 0
          · have e0d : ((dp : Int) == 0) = true := beq_iff_eq.2 (by omega)
            rw [endS_zero l p (x, y) q n ks hdp] at he
            cases he
            have DP := hid hdp
            clear hdp
            go_wp2_with ((go_at_call 49; refine (lean_any vb.1 _).mono ?_; rintro e wq ⟨rfl, hb⟩; obtain ⟨os, d, rfl⟩ := plus_of_below hb; clear hb; try rw [KK.out]))
            refine ⟨rfl, rfl, v, ?_, Kept.of_only (by (repeat' (first | exact Only.refl _ _ _ | (refine Only.alloc ?_ ?_ _) | (refine Only.plus ?_ ?_ _ _) | (refine Only.drew ?_) | (refine Only.put ?_ _ _) | (refine Only.set ?_ ?_ _) | assumption | omega | (simp; done) | (simp; omega))))⟩
            refine walk_keep (w := w) OWN.out (by first | (simp only [block_plus']; exact BLK1.out) | exact BLK1.out) (by (repeat' (first | exact Only.refl _ _ _ | (refine Only.alloc ?_ ?_ _) | (refine Only.plus ?_ ?_ _ _) | (refine Only.drew ?_) | (refine Only.put ?_ _ _) | (refine Only.set ?_ ?_ _) | assumption | omega | (simp; done) | (simp; omega)))) low top
          · have e0d : ((dp : Int) == 0) = false := beq_eq_false_iff_ne.2 (by omega)
            obtain ⟨d', hd'⟩ : ∃ d', dp = d' + 1 := ⟨dp - 1, by omega⟩
            rw [endS_succ l p (x, y) q n ks hd'] at he
            have DP := hid hd'
            clear hd' hdp
            cases hl1 : clike x y p.1 p.2
            case true =>
              simp only [hl1, if_true] at he
              cases he
              go_wp2_with (first | (go_at_call 50; refine (plike_any _ _ _ _ _).mono ?_; rintro e w' ⟨rfl, rfl⟩; try rw [hl1]) | (go_at_call 49; refine (lean_any vb.1 _).mono ?_; rintro e wq ⟨rfl, hb⟩; obtain ⟨os, d, rfl⟩ := plus_of_below hb; clear hb; try rw [KK.out]))
              refine ⟨rfl, rfl, v, ?_, Kept.of_only (by (repeat' (first | exact Only.refl _ _ _ | (refine Only.alloc ?_ ?_ _) | (refine Only.plus ?_ ?_ _ _) | (refine Only.drew ?_) | (refine Only.put ?_ _ _) | (refine Only.set ?_ ?_ _) | assumption | omega | (simp; done) | (simp; omega))))⟩
              refine walk_keep (w := w) OWN.out (by first | (simp only [block_plus']; exact BLK1.out) | exact BLK1.out) (by (repeat' (first | exact Only.refl _ _ _ | (refine Only.alloc ?_ ?_ _) | (refine Only.plus ?_ ?_ _ _) | (refine Only.drew ?_) | (refine Only.put ?_ _ _) | (refine Only.set ?_ ?_ _) | assumption | omega | (simp; done) | (simp; omega)))) low top
            case false =>
              cases hl2 : clike x y q.1 q.2
              case true =>
                simp only [hl1, hl2, if_true, Bool.false_eq_true, if_false] at he
                cases he
                go_wp2_with (first | (go_at_call 50; refine (plike_any _ _ _ _ _).mono ?_; rintro e w' ⟨rfl, rfl⟩; first | rw [hl1] | rw [hl2]) | (go_at_call 49; refine (lean_any vb.1 _).mono ?_; rintro e wq ⟨rfl, hb⟩; obtain ⟨os, d, rfl⟩ := plus_of_below hb; clear hb; try rw [KK.out]))
                refine ⟨rfl, rfl, v, ?_, Kept.of_only (by (repeat' (first | exact Only.refl _ _ _ | (refine Only.alloc ?_ ?_ _) | (refine Only.plus ?_ ?_ _ _) | (refine Only.drew ?_) | (refine Only.put ?_ _ _) | (refine Only.set ?_ ?_ _) | assumption | omega | (simp; done) | (simp; omega))))⟩
                refine walk_keep (w := w) OWN.out (by first | (simp only [block_plus']; exact BLK1.out) | exact BLK1.out) (by (repeat' (first | exact Only.refl _ _ _ | (refine Only.alloc ?_ ?_ _) | (refine Only.plus ?_ ?_ _ _) | (refine Only.drew ?_) | (refine Only.put ?_ _ _) | (refine Only.set ?_ ?_ _) | assumption | omega | (simp; done) | (simp; omega)))) low top
              case false =>
                simp only [hl1, hl2, Bool.false_eq_true, if_false] at he
                obtain ⟨r1', hr1, he2⟩ := bind_some he
                clear he
                have HR1 := hid hr1
                have HE2 := hid he2
                clear hr1 he2
                go_wp2_with (first | (go_at_call 50; refine (plike_any _ _ _ _ _).mono ?_; rintro e w' ⟨rfl, rfl⟩; first | rw [hl1] | rw [hl2]) | (go_at_call 49; refine (lean_any vb.1 _).mono ?_; rintro e wq ⟨rfl, hb⟩; obtain ⟨os, d, rfl⟩ := plus_of_below hb; clear hb; try rw [KK.out]))
                have bd1 := halfS_bd l d' p (x, y) (n + 1) ks r1' (by omega) (by omega) HR1.out
                have ed : ((dp : Int) - 1) = (d' : Int) := by have := DP.out; omega
                rw [ed]
                refine (IH.out d' DP.out p (x, y) (n + 1) ks v _ r1' (by omega) (by omega) (by first | omega | (simp; omega)) vcw vch vbb (walk_keep (w := w) OWN.out ?_ ?_ low top) (reads_of ?_ RD.out) ?_ ?_ HR1.out).mono ?_
                · first | (simp only [block_plus']; exact BLK1.out) | exact BLK1.out
                · (repeat' (first | exact Only.refl _ _ _ | (refine Only.alloc ?_ ?_ _) | (refine Only.plus ?_ ?_ _ _) | (refine Only.drew ?_) | (refine Only.put ?_ _ _) | (refine Only.set ?_ ?_ _) | assumption | omega | (simp; done) | (simp; omega)))
                · intro o; first | exact RD1.out o | (simp only [cell_plus]; exact RD1.out o)
                · first | exact cw1 | simp [go_sem, cw1]
                · first | exact ch1 | simp [go_sem, ch1]
                rintro e w2 ⟨hee, v2, hW2, hO2⟩
                have he2 := HE2.out
                clear HE2 HR1
                have hO3 : Kept w pb v w2 v2 := by
                  refine Kept.trans (Kept.of_only ?_) hO2
                  (repeat' (first | exact Only.refl _ _ _ | (refine Only.alloc ?_ ?_ _) | (refine Only.plus ?_ ?_ _ _) | (refine Only.drew ?_) | (refine Only.put ?_ _ _) | (refine Only.set ?_ ?_ _) | assumption | omega | (simp; done) | (simp; omega)))
                cases hr : r1'.1
                case false =>
                  rw [hr] at he2
                  simp only [Bool.false_eq_true, if_false] at he2
                  cases he2
                  obtain rfl : e = .panicked unsureV := hee.trans (by rw [hr]; rfl)
                  exact ⟨rfl, by rw [hr]; rfl, v2, hW2, hO3⟩
                case true =>
                  obtain rfl : e = .returned (.tuple #[]) := hee.trans (by rw [hr]; rfl)
                  clear hee
                  rw [hr] at he2
                  simp only [if_true] at he2
                  have HE2 := hid he2
                  clear he2 hr
                  have ch2 : w2.cell? ⟨ch, 0, none⟩ = some (.func (.func 46) #[] #[.pointer (some ⟨cw, 0, none⟩), .pointer (some ⟨ch, 0, none⟩)]) := (hO2.cell (by simp; omega) HH.out vch).trans (by first | exact ch1 | simp [go_sem, ch1])
                  have cw2 : w2.cell? ⟨cw, 0, none⟩ = some (.pointer (some ⟨pb, 0, none⟩)) := (hO2.cell (by simp; omega) HW.out vcw).trans (by first | exact cw1 | simp [go_sem, cw1])
                  have rd2 : ∀ o, w2.cell? ⟨b, o, none⟩ = w.cell? ⟨b, o, none⟩ := fun o => (hO2.cell (by simp; omega) HBP.out vbb).trans (by first | exact RD1.out o | (simp only [cell_plus]; exact RD1.out o))
                  have RD2 := hid rd2
                  clear rd2
                  go_wp2_with fail
                  try rw [ed]
                  refine (IH.out d' DP.out (x, y) q r1'.2.1 r1'.2.2 v2 _ r bd1.1 bd1.2 (by have := hO3.size; omega) (hO3.ne lcw vcw) (hO3.ne lch vch) (hO3.ne hbw vbb) hW2 (reads_of RD2.out RD.out) cw2 ch2 HE2.out).mono ?_
                  rintro e w3 ⟨hee, v3, hW3, hO4⟩
                  cases hr2 : r.1
                  case false =>
                    obtain rfl : e = .panicked unsureV := hee.trans (by rw [hr2]; rfl)
                    exact ⟨rfl, by rw [hr2]; rfl, v3, hW3, hO3.trans hO4⟩
                  case true =>
                    obtain rfl : e = .returned (.tuple #[]) := hee.trans (by rw [hr2]; rfl)
                    go_wp2_with fail
                    exact bodyPost_ret (results_none rfl _ _ _) rfl ⟨by rw [hr2]; rfl, v3, hW3, hO3.trans hO4⟩
      · rw [if_neg hv0] at hk2
        injection hk2 with hk3
        have h3 := H2.out
        rw [← hk3, if_neg (by omega)] at h3
        have ev : (vb.2 == 0) = false := by simp [hv0]
        clear hv0 hk3
        clear HK
        obtain ⟨m, hm, he⟩ := bind_some h3
        clear h3 H2
        unfold midS at hm
        obtain ⟨xa, ha, hm1⟩ := bind_some hm
        obtain ⟨xb, hb', hm2⟩ := bind_some hm1
        obtain ⟨x, hx, hm3⟩ := bind_some hm2
        obtain ⟨ya, hya, hm4⟩ := bind_some hm3
        obtain ⟨yb, hyb, hm5⟩ := bind_some hm4
        obtain ⟨y, hy, hm6⟩ := bind_some hm5
        cases hm6
        clear hm hm1 hm2 hm3 hm4 hm5
        have r1 := run_fdiv ha
        have r2 := run_fdiv hb'
        have r3 := run_fadd hx
        have r4 := run_fdiv hya
        have r5 := run_fdiv hyb
        have r6 := run_fadd hy
        clear ha hb' hx hya hyb hy
        have hsz := hO.size
        have hcast : ((n + 1 : Nat) : Int) = (n : Int) + 1 := by omega
        have CAST := hid hcast
        clear hcast
        by_cases hdp : dp = 0
        · have e0d : ((dp : Int) == 0) = true := beq_iff_eq.2 (by omega)
          rw [endS_zero l p (x, y) q n ks hdp] at he
          cases he
          have DP := hid hdp
          clear hdp
          go_wp2_with fail
          refine ⟨rfl, rfl, v, ?_, Kept.of_only (by (repeat' (first | exact Only.refl _ _ _ | (refine Only.alloc ?_ ?_ _) | (refine Only.plus ?_ ?_ _ _) | (refine Only.drew ?_) | (refine Only.put ?_ _ _) | (refine Only.set ?_ ?_ _) | assumption | omega | (simp; done) | (simp; omega))))⟩
          refine walk_keep (w := w) OWN.out (by first | (simp only [block_plus']; exact BLK1.out) | exact BLK1.out) (by (repeat' (first | exact Only.refl _ _ _ | (refine Only.alloc ?_ ?_ _) | (refine Only.plus ?_ ?_ _ _) | (refine Only.drew ?_) | (refine Only.put ?_ _ _) | (refine Only.set ?_ ?_ _) | assumption | omega | (simp; done) | (simp; omega)))) low top
        · have e0d : ((dp : Int) == 0) = false := beq_eq_false_iff_ne.2 (by omega)
          obtain ⟨d', hd'⟩ : ∃ d', dp = d' + 1 := ⟨dp - 1, by omega⟩
          rw [endS_succ l p (x, y) q n ks hd'] at he
          have DP := hid hd'
          clear hd' hdp
          cases hl1 : clike x y p.1 p.2
          case true =>
            simp only [hl1, if_true] at he
            cases he
            go_wp2_with ((go_at_call 50; refine (plike_any _ _ _ _ _).mono ?_; rintro e w' ⟨rfl, rfl⟩; try rw [hl1]))
            refine ⟨rfl, rfl, v, ?_, Kept.of_only (by (repeat' (first | exact Only.refl _ _ _ | (refine Only.alloc ?_ ?_ _) | (refine Only.plus ?_ ?_ _ _) | (refine Only.drew ?_) | (refine Only.put ?_ _ _) | (refine Only.set ?_ ?_ _) | assumption | omega | (simp; done) | (simp; omega))))⟩
            refine walk_keep (w := w) OWN.out (by first | (simp only [block_plus']; exact BLK1.out) | exact BLK1.out) (by (repeat' (first | exact Only.refl _ _ _ | (refine Only.alloc ?_ ?_ _) | (refine Only.plus ?_ ?_ _ _) | (refine Only.drew ?_) | (refine Only.put ?_ _ _) | (refine Only.set ?_ ?_ _) | assumption | omega | (simp; done) | (simp; omega)))) low top
          case false =>
            cases hl2 : clike x y q.1 q.2
            case true =>
              simp only [hl1, hl2, if_true, Bool.false_eq_true, if_false] at he
              cases he
              go_wp2_with ((go_at_call 50; refine (plike_any _ _ _ _ _).mono ?_; rintro e w' ⟨rfl, rfl⟩; first | rw [hl1] | rw [hl2]))
              refine ⟨rfl, rfl, v, ?_, Kept.of_only (by (repeat' (first | exact Only.refl _ _ _ | (refine Only.alloc ?_ ?_ _) | (refine Only.plus ?_ ?_ _ _) | (refine Only.drew ?_) | (refine Only.put ?_ _ _) | (refine Only.set ?_ ?_ _) | assumption | omega | (simp; done) | (simp; omega))))⟩
              refine walk_keep (w := w) OWN.out (by first | (simp only [block_plus']; exact BLK1.out) | exact BLK1.out) (by (repeat' (first | exact Only.refl _ _ _ | (refine Only.alloc ?_ ?_ _) | (refine Only.plus ?_ ?_ _ _) | (refine Only.drew ?_) | (refine Only.put ?_ _ _) | (refine Only.set ?_ ?_ _) | assumption | omega | (simp; done) | (simp; omega)))) low top
            case false =>
              simp only [hl1, hl2, Bool.false_eq_true, if_false] at he
              obtain ⟨r1', hr1, he2⟩ := bind_some he
              clear he
              have HR1 := hid hr1
              have HE2 := hid he2
              clear hr1 he2
              go_wp2_with ((go_at_call 50; refine (plike_any _ _ _ _ _).mono ?_; rintro e w' ⟨rfl, rfl⟩; first | rw [hl1] | rw [hl2]))
              have bd1 := halfS_bd l d' p (x, y) (n + 1) ks r1' (by omega) (by omega) HR1.out
              have ed : ((dp : Int) - 1) = (d' : Int) := by have := DP.out; omega
              rw [ed]
              refine (IH.out d' DP.out p (x, y) (n + 1) ks v _ r1' (by omega) (by omega) (by first | omega | (simp; omega)) vcw vch vbb (walk_keep (w := w) OWN.out ?_ ?_ low top) (reads_of ?_ RD.out) ?_ ?_ HR1.out).mono ?_
              · first | (simp only [block_plus']; exact BLK1.out) | exact BLK1.out
              · (repeat' (first | exact Only.refl _ _ _ | (refine Only.alloc ?_ ?_ _) | (refine Only.plus ?_ ?_ _ _) | (refine Only.drew ?_) | (refine Only.put ?_ _ _) | (refine Only.set ?_ ?_ _) | assumption | omega | (simp; done) | (simp; omega)))
              · intro o; first | exact RD1.out o | (simp only [cell_plus]; exact RD1.out o)
              · first | exact cw1 | simp [go_sem, cw1]
              · first | exact ch1 | simp [go_sem, ch1]
              rintro e w2 ⟨hee, v2, hW2, hO2⟩
              have he2 := HE2.out
              clear HE2 HR1
              have hO3 : Kept w pb v w2 v2 := by
                refine Kept.trans (Kept.of_only ?_) hO2
                (repeat' (first | exact Only.refl _ _ _ | (refine Only.alloc ?_ ?_ _) | (refine Only.plus ?_ ?_ _ _) | (refine Only.drew ?_) | (refine Only.put ?_ _ _) | (refine Only.set ?_ ?_ _) | assumption | omega | (simp; done) | (simp; omega)))
              cases hr : r1'.1
              case false =>
                rw [hr] at he2
                simp only [Bool.false_eq_true, if_false] at he2
                cases he2
                obtain rfl : e = .panicked unsureV := hee.trans (by rw [hr]; rfl)
                exact ⟨rfl, by rw [hr]; rfl, v2, hW2, hO3⟩
              case true =>
                obtain rfl : e = .returned (.tuple #[]) := hee.trans (by rw [hr]; rfl)
                clear hee
                rw [hr] at he2
                simp only [if_true] at he2
                have HE2 := hid he2
                clear he2 hr
                have ch2 : w2.cell? ⟨ch, 0, none⟩ = some (.func (.func 46) #[] #[.pointer (some ⟨cw, 0, none⟩), .pointer (some ⟨ch, 0, none⟩)]) := (hO2.cell (by simp; omega) HH.out vch).trans (by first | exact ch1 | simp [go_sem, ch1])
                have cw2 : w2.cell? ⟨cw, 0, none⟩ = some (.pointer (some ⟨pb, 0, none⟩)) := (hO2.cell (by simp; omega) HW.out vcw).trans (by first | exact cw1 | simp [go_sem, cw1])
                have rd2 : ∀ o, w2.cell? ⟨b, o, none⟩ = w.cell? ⟨b, o, none⟩ := fun o => (hO2.cell (by simp; omega) HBP.out vbb).trans (by first | exact RD1.out o | (simp only [cell_plus]; exact RD1.out o))
                have RD2 := hid rd2
                clear rd2
                go_wp2_with fail
                try rw [ed]
                refine (IH.out d' DP.out (x, y) q r1'.2.1 r1'.2.2 v2 _ r bd1.1 bd1.2 (by have := hO3.size; omega) (hO3.ne lcw vcw) (hO3.ne lch vch) (hO3.ne hbw vbb) hW2 (reads_of RD2.out RD.out) cw2 ch2 HE2.out).mono ?_
                rintro e w3 ⟨hee, v3, hW3, hO4⟩
                cases hr2 : r.1
                case false =>
                  obtain rfl : e = .panicked unsureV := hee.trans (by rw [hr2]; rfl)
                  exact ⟨rfl, by rw [hr2]; rfl, v3, hW3, hO3.trans hO4⟩
                case true =>
                  obtain rfl : e = .returned (.tuple #[]) := hee.trans (by rw [hr2]; rfl)
                  go_wp2_with fail
                  exact bodyPost_ret (results_none rfl _ _ _) rfl ⟨by rw [hr2]; rfl, v3, hW3, hO3.trans hO4⟩
theorem half_any (l : List Pl) (b off cap B pb cw ch : Nat) (hbp : b ≠ pb) (hwp : cw ≠ pb) (hhp : ch ≠ pb) : ∀ d, d ≤ 24 → HalfC l b off cap B pb cw ch d
  | 0, h => half_step l b off cap B pb cw ch hbp hwp hhp 0 h (fun _ e => by omega)
  | d + 1, h => half_step l b off cap B pb cw ch hbp hwp hhp (d + 1) h (fun d' e => by
      obtain rfl : d = d' := by omega
      exact half_any l b off cap B pb cw ch hbp hwp hhp d (by omega))
end Go.Proofs.Ytbocjicihamahaa
