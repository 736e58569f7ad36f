/- The search of zeros, of the given program: what the call does. -/
import Derived.Test.YtbocjicihamahaaY3
import Derived.Test.YtbocjicihamahaaT
import Derived.Test.YtbocjicihamahaaO
import Derived.Outline
set_option linter.unusedSimpArgs false
set_option linter.unusedVariables false
namespace Go.Proofs.Ytbocjicihamahaa
open Go.RowKit


/-- Two rows that are made, each in a block of its own. -/
structure Two (w2 : World) (B : Nat) (W : World) (vb : Value) (kb : Nat) (cb : List Value) (vn : Value) (kn : Nat) (cn : List Value) : Prop where
  ob : W.ownsRow B 29 2 vb kb cb
  on : W.ownsRow B 3 1 vn kn cn
  ne : ∀ g, vb.ownBlock = some g → vn.ownBlock ≠ some g
  bl : Below B w2 W
  top : B ≤ W.heap.size
section
variable {w2 W wa : World} {B : Nat} {vb vn : Value} {kb kn : Nat} {cb cn : List Value}
theorem Two.alloc (T : Two w2 B W vb kb cb vn kn cn) (o : Obj) : Two w2 B (W.alloc o) vb kb cb vn kn cn :=
  ⟨T.ob.alloc _, T.on.alloc _, T.ne, T.bl.alloc T.top _, by have := T.top; simp; omega⟩
theorem Two.drew (T : Two w2 B W vb kb cb vn kn cn) : Two w2 B W.drew vb kb cb vn kn cn := ⟨T.ob.drew, T.on.drew, T.ne, T.bl.drew, T.top⟩
theorem Two.moreB (T : Two w2 B W vb kb cb vn kn cn) {g cap : Nat} {news : List Value} (hown : wa.ownsRow B 29 2 (.slice (some ⟨g, 0, none⟩) (kb + 1) cap) (kb + 1) (cb ++ news)) (hG : W.grownBy wa vb.ownBlock) (hat : vb.ownBlock = some g ∨ g = W.heap.size) :
    Two w2 B wa (.slice (some ⟨g, 0, none⟩) (kb + 1) cap) (kb + 1) (cb ++ news) vn kn cn := by
  refine ⟨hown, T.on.kept hG ?_, ?_, T.bl.trans ⟨hG.os, hG.tape, hG.output, hG.size, fun k hk => hG.block k (by have := T.top; omega) (fun e => ?_)⟩, Nat.le_trans T.top hG.size⟩
  · by_cases h : vn.ownBlock = none
    · exact .inl h
    · obtain ⟨k, hk⟩ := Option.ne_none_iff_exists'.1 h
      exact .inr (by rw [hk]; exact fun e => T.ne k e.symm hk)
  · intro j hj
    simp only [Value.ownBlock, Option.some.injEq] at hj
    subst hj
    rcases hat with h | h
    · exact T.ne _ h
    · intro e
      have := (T.on.lt _ e).2
      omega
  · have := (T.ob.lt _ e.symm).1
    omega
theorem Two.moreN (T : Two w2 B W vb kb cb vn kn cn) {g cap : Nat} {news : List Value} (hown : wa.ownsRow B 3 1 (.slice (some ⟨g, 0, none⟩) (kn + 1) cap) (kn + 1) (cn ++ news)) (hG : W.grownBy wa vn.ownBlock) (hat : vn.ownBlock = some g ∨ g = W.heap.size) :
    Two w2 B wa vb kb cb (.slice (some ⟨g, 0, none⟩) (kn + 1) cap) (kn + 1) (cn ++ news) := by
  refine ⟨T.ob.kept hG ?_, hown, ?_, T.bl.trans ⟨hG.os, hG.tape, hG.output, hG.size, fun k hk => hG.block k (by have := T.top; omega) (fun e => ?_)⟩, Nat.le_trans T.top hG.size⟩
  · by_cases h : vb.ownBlock = none
    · exact .inl h
    · obtain ⟨k, hk⟩ := Option.ne_none_iff_exists'.1 h
      exact .inr (by rw [hk]; exact fun e => T.ne k hk e.symm)
  · intro j hj e
    simp only [Value.ownBlock, Option.some.injEq] at e
    subst e
    rcases hat with h | h
    · exact T.ne _ hj h
    · have := (T.ob.lt _ hj).2
      omega
  · have := (T.on.lt _ e.symm).1
    omega
end
theorem step_app {ops : Array Oper} {o : Oper} {a : Act} {w : World} {K : Act → World → Prop} {Q : Exit → Act → World → Prop} {E : Prop} (hgd : o.guard = none) (s x : Operand) (t : TypeId)
    (ho : o.op = .call { callee := .builtin .append, args := #[s, x], argTypes := #[t, t] }) (base : Nat) (e : TypeId) (i : TypeInfo) (z : Value) (size bytes : Nat) (ht : Try.prog.underlying t = some (.slice e)) (hi : Try.prog.info? e = some i) (hz : i.zero = some z)
    (hsize : i.size = size) (hby : i.bytes = bytes) (hzs : z.cells.size = size) (hsz : 0 < size) (v : Value) (n : Nat) (xs : List Value) (hs : a.eval s = v) (hown : w.ownsRow base e size v n xs)
    (news : List Value) (hx : ∃ ad c, a.eval x = .slice (some ad) 1 c ∧ ∀ j u, news[j]? = some u → w.cell? (ad.add j) = some u) (hl : news.length = size) (h1 : ∀ u ∈ news, u.oneCell' = true)
    (h63 : n + 1 ≤ maxLen) (hbytes : (n + 1) * bytes ≤ 140737488355328) (hbase : base ≤ w.heap.size)
    (h : ∀ g cap w', w'.ownsRow base e size (.slice (some ⟨g, 0, none⟩) (n + 1) cap) (n + 1) (xs ++ news) → w.grownBy w' v.ownBlock → (v.ownBlock = some g ∨ g = w.heap.size) → g < w'.heap.size → K (a.put o.dst (.slice (some ⟨g, 0, none⟩) (n + 1) cap)) w') :
    if Region.wanted o (yielded ops a.tmps) = true then Oper.wp Try.prog o a w K Q else E := by
  obtain ⟨ad, c, hx, hn⟩ := hx
  exact step_append_lies w hgd s x t ho base e i z size bytes ht hi hz hsize hby hzs hsz v n xs hs hown ad 1 c news hx (by omega) hn h1 (by omega) h63 hbytes hbase _ rfl h
/-- Something is done surely, and it was sure. -/
theorem surely_ok (F : Nat) (cap : Array Value) (w : World) (R : World → Prop)
    (hcf : ∀ w, (callFunc F cap).run Try.prog w = .ok (.enter F cap) w)
    (h : Calls Try.prog F cap (w.alloc (.cells #[.bool false] 4)) (fun e w' => e = .returned (.tuple #[]) ∧ w'.heap[w.heap.size]? = some (.cells #[.bool false] 4 (0, 0)) ∧ R w')) :
    Calls Try.prog 15 #[.func (.func F) #[] cap] w (fun e w' => e = .returned (.bool true) ∧ ∃ w1, R w1 ∧ w.heap.size < w1.heap.size ∧ w' = w1.setCell ⟨w.heap.size, 0, none⟩ (.bool true)) := by
  have hmf := run_makeFunc
  have H := hid h
  clear h
  go_enter_defers Try.func15, Try.ntmps15
  go_wp2_with fail
  refine H.out.mono ?_
  rintro e w1 ⟨rfl, hbl, hR⟩
  have hlt := lt_of_block hbl
  haveI : Has w1 w.heap.size := ⟨hlt⟩
  have c0 := cell_of_block hbl 0
  have f0 := free_of_block hbl 0
  simp at c0
  have BL := hid hbl
  clear hbl
  go_wp2_with fail
  refine leaves_cons (f := 30) (args := #[.pointer (some ⟨w.heap.size, 0, none⟩)]) (by simp) (by simp [go_sem]) ?_
  refine (recover_idle ⟨w.heap.size, 0, none⟩ _).mono ?_
  rintro e u' w'' ⟨rfl, rfl, rfl⟩
  simp [Leaves, settle, results, Try.results15, go_sem]
  have hcell := cell_of_block (set_of_block BL.out 0 (.bool true)) 0
  simp at hcell
  rw [hcell]
  exact ⟨_, rfl, rfl, w1, hR, hlt, rfl⟩
/-- What the search of zeros comes to, if it finds two boxes. -/
def FindPost (f g : Fd) (w : World) (e : Ending) (w' : World) : Prop :=
  (∃ (vb : Option Addr) (cb gn cn : Nat), e = .returned (.tuple #[.slice vb 2 cb, .slice (some ⟨gn, 0, none⟩) 2 cn, .int .i64 0]) ∧ w'.cell? ⟨gn, 0, none⟩ = some (.int .i64 f.2) ∧ w'.cell? ⟨gn, 1, none⟩ = some (.int .i64 g.2) ∧ gn < w'.heap.size) ∧ Below w.heap.size w w'
set_option maxRecDepth 100000 in
set_option maxHeartbeats 4000000 in
theorem find_ok (l : List Pl) (x : Bx) (dn : Nat) (b off cap : Nat) (w : World) (m n : Nat) (ks : List Int) (K : Nat) (f g : Fd) (hok : polyOk l = true) (hl : askedS l = 0) (hx : insideS x = 0) (hdn : dn ≤ 24)
    (hb : b < w.heap.size) (hrd : reads w b off l) (h : overGo l dn (borderS x) 4 0 0 [] = some (true, m, ks)) (hm : m ≤ 16384) (hA : apartS l 4602678819172646912 dn K (x, roundS ks) 0 m [] = some (n, [f, g]))
    (h0 : 0 ≤ ordS g.1.1 f.1.1) (h1 : feq f.1.1.1 f.1.1.1 = true) (h2 : feq f.1.1.2 f.1.1.2 = true) (h3 : feq g.1.1.1 g.1.1.1 = true) (h4 : feq g.1.1.2 g.1.1.2 = true) :
    Calls Try.prog 9 #[.slice (some ⟨b, off, none⟩) l.length cap, .agg #[.complex .f64 x.1.1 x.1.2, .complex .f64 x.2.1 x.2.2], .float .f64 4602678819172646912, .int .i64 dn] w (FindPost f g w) := by
  haveI : Has w b := ⟨hb⟩
  have hmf := run_makeFunc
  have H := hid h
  have HA := hid hA
  have RD := hid hrd
  have LS := hid hl
  have XS := hid hx
  have H0 := hid h0
  have H1 := hid h1
  have H2 := hid h2
  have H3 := hid h3
  have H4 := hid h4
  clear h hA hrd hl hx h0 h1 h2 h3 h4
  have q1 : FloatKind.f64.format.order 4602678819172646912 4427038433705197568 = some .gt := by kernel_rfl
  have q2 : FloatKind.f64.format.order 4602678819172646912 4787326403894837248 = some .lt := by kernel_rfl
  go_enter Try.func9, Try.ntmps9
  go_upto_region 4 with fail
  go_cut [12] (fun s12 wx => s12 = .int .i64 0 ∧ ∃ os dd, wx = (((w.alloc (.cells #[.complex .f64 x.1.1 x.1.2, .complex .f64 x.2.1 x.2.2] 29)).alloc (.cells #[.float .f64 4602678819172646912] 31)).alloc (.cells #[.int .i64 dn] 3)).plus os dd)
  case first =>
    go_region_held3 (fun W => W.cell? ⟨w.heap.size, 0, none⟩ = some (.complex .f64 x.1.1 x.1.2) ∧ W.cell? ⟨w.heap.size, 1, none⟩ = some (.complex .f64 x.2.1 x.2.2) ∧ W.cell? ⟨w.heap.size + 1 + 1, 0, none⟩ = some (.int .i64 dn)) (refine ⟨?_, ?_, ?_⟩ <;> (simp [go_sem]; done)) (first | (go_at_call 12; ((with_reducible refine (casked_any l b off cap _ hok (reads_of (fun o => by simp [go_sem]) RD.out) Has.lt).mono ?_); rintro e wq ⟨rfl, rfl⟩)) | (go_at_call 13; ((with_reducible refine (inside_any x _).mono ?_); rintro e wq ⟨rfl, hb⟩); obtain ⟨os, d, rfl⟩ := plus_of_below hb; clear hb) | (go_at_call 14; ((with_reducible refine (deep_any dn _).mono ?_); rintro e wq ⟨rfl, rfl⟩)) | (go_at_call 11; ((with_reducible refine Calls.mono (first4 (askedS l) (insideS x) 0 (deepS dn) _ 22 _ (by simp only [block_drew, block_at])) ?_); rintro e wq ⟨rfl, rfl⟩)))
    all_goals
      go_wp2_with fail
      go_meet
      refine ⟨?_, plus_of_below ?_⟩
      · rw [LS.out, XS.out, deepS_ok hdn]; rfl
      · (repeat' (first | exact Below.refl _ _ | (refine Below.alloc ?_ ?_ _) | (refine below_plus ?_ ?_ _ _) | (refine Below.drew ?_) | (refine Below.setCell ?_ ?_ _) | (simp; done) | (simp; omega) | assumption))
  case rest =>
    obtain ⟨rfl, os, dd, rfl⟩ := hcut
    go_wp2_with fail
    have L : Lies (w.heap.size + 1 + 1 + 1 + os.size + 1 + 1 + 1 + 1 + 1) (w.heap.size + 1 + 1 + 1 + os.size) (w.heap.size + 1 + 1 + 1 + os.size + 1 + 1) (w.heap.size + 1) (w.heap.size + 1 + 1) (w.heap.size + 1 + 1 + 1 + os.size + 1) (w.heap.size + 1 + 1 + 1 + os.size + 1 + 1 + 1) b := by
      constructor <;> omega
    refine (surely_ok 25 _ _ (fun w' => ∃ v0' va', Search w' (w.heap.size + 1 + 1 + 1 + os.size + 1 + 1 + 1 + 1 + 1) (w.heap.size + 1 + 1 + 1 + os.size) (w.heap.size + 1 + 1 + 1 + os.size + 1 + 1) (w.heap.size + 1) (w.heap.size + 1 + 1) (w.heap.size + 1 + 1 + 1 + os.size + 1) (w.heap.size + 1 + 1 + 1 + os.size + 1 + 1 + 1) b off cap l 4602678819172646912 dn n [f, g] v0' va' ∧ Below w.heap.size w w' ∧ w'.heap[w.heap.size + 1 + 1 + 1 + os.size + 1 + 1 + 1 + 1]? = some (.cells #[.bool false] 4 (0, 0))) (fun _ => rfl) ((fclo_ok (w.heap.size + 1 + 1 + 1 + os.size + 1 + 1 + 1 + 1 + 1) (w.heap.size + 1 + 1 + 1 + os.size) (w.heap.size + 1 + 1 + 1 + os.size + 1 + 1) (w.heap.size + 1) (w.heap.size + 1 + 1) (w.heap.size + 1 + 1 + 1 + os.size + 1) (w.heap.size + 1 + 1 + 1 + os.size + 1 + 1 + 1) w.heap.size b off cap L (by omega) (by omega) (by omega) l 4602678819172646912 dn hdn x m ks K (n, [f, g]) (.slice none 0 0) (.slice none 0 0) _ ⟨?_, ?_, World.ownsRow_nil _ _ _ _, ?_, ?_, ?_, ?_, ?_, ?_⟩ ?_ H.out hm HA.out).mono ?_)).mono ?_
    · simp only [block_alloc', block_plus', block_drew, block_at]
      rfl
    · simp only [block_alloc', block_plus', block_drew, block_at]
    · simp [go_sem]
    · simp [go_sem]
    · simp [go_sem]
    · simp [go_sem]
    · exact reads_of (fun o => by simp [go_sem]) RD.out
    · simp
    · simp only [block_alloc', block_plus', block_drew, block_at]
    · rintro e w' ⟨rfl, v0', va', hS, hK⟩
      have hbo : w'.heap[w.heap.size + 1 + 1 + 1 + os.size + 1 + 1 + 1 + 1]? = some (.cells #[.bool false] 4 (0, 0)) := (hK.block (w.heap.size + 1 + 1 + 1 + os.size + 1 + 1 + 1 + 1) (by simp) (by omega) (by omega) (by simp [Value.ownBlock])).trans (by simp only [block_alloc', block_plus', block_drew, block_at])
      refine ⟨rfl, ?_, v0', va', hS, ?_, hbo⟩
      · simp only [World.size_alloc, size_plus]
        exact hbo
      · refine Below.trans (b := _) ?_ (⟨hK.os, hK.tape, hK.output, hK.size, fun k hk => hK.block k (by simp; omega) (by omega) (by omega) (by simp [Value.ownBlock])⟩ : Below w.heap.size _ w')
        (repeat' (first | exact Below.refl _ _ | (refine Below.alloc ?_ ?_ _) | (refine below_plus ?_ ?_ _ _) | (refine Below.drew ?_) | (refine Below.setCell ?_ ?_ _) | (simp; done) | (simp; omega) | assumption))
    · rintro e w'' ⟨rfl, w1, ⟨v0', va', hS, hB, hbo⟩, hlt, rfl⟩
      simp only [World.size_alloc, size_plus]
      obtain ⟨gg, cp, rfl, hg1, hg2⟩ := hS.own.form (by simp)
      have own := hS.own
      have hne : gg ≠ w.heap.size + 1 + 1 + 1 + os.size + 1 + 1 + 1 + 1 := by omega
      have cel : ∀ j, (w1.setCell ⟨w.heap.size + 1 + 1 + 1 + os.size + 1 + 1 + 1 + 1, 0, none⟩ (.bool true)).cell? ⟨gg, j, none⟩ = w1.cell? ⟨gg, j, none⟩ := fun j => World.cell?_of_block (w := w1) (block_ne _ _ _ _ _ hne)
      have k0 := (cel 0).trans (own.cellAt 0 (by simp [fdCells]))
      have k1 := (cel 1).trans (own.cellAt 1 (by simp [fdCells]))
      have k2 := (cel 2).trans (own.cellAt 2 (by simp [fdCells]))
      have k3 := (cel 3).trans (own.cellAt 3 (by simp [fdCells]))
      have k4 := (cel 4).trans (own.cellAt 4 (by simp [fdCells]))
      have k5 := (cel 5).trans (own.cellAt 5 (by simp [fdCells]))
      have hall := cell_of_block ((block_ne w1 (w.heap.size + 1 + 1 + 1 + os.size + 1 + 1 + 1 + 1) 0 (w.heap.size + 1 + 1 + 1 + os.size + 1 + 1) (.bool true) (by omega)).trans hS.all) 0
      have hB2 : Below w.heap.size w (w1.setCell ⟨w.heap.size + 1 + 1 + 1 + os.size + 1 + 1 + 1 + 1, 0, none⟩ (.bool true)) := Below.setCell (p := ⟨w.heap.size + 1 + 1 + 1 + os.size + 1 + 1 + 1 + 1, 0, none⟩) hB (by show w.heap.size ≤ w.heap.size + 1 + 1 + 1 + os.size + 1 + 1 + 1 + 1; omega) _
      have hg3 : gg < (w1.setCell ⟨w.heap.size + 1 + 1 + 1 + os.size + 1 + 1 + 1 + 1, 0, none⟩ (.bool true)).heap.size := by rw [World.size_setCell]; exact hg2
      have hp3 : w.heap.size + 1 + 1 + 1 + os.size + 1 + 1 < (w1.setCell ⟨w.heap.size + 1 + 1 + 1 + os.size + 1 + 1 + 1 + 1, 0, none⟩ (.bool true)).heap.size := by rw [World.size_setCell]; omega
      simp [fdCells, fdV] at k0 k1 k2 k3 k4 k5 hall
      clear cel own hS hB hbo hlt
      generalize w1.setCell ⟨w.heap.size + 1 + 1 + 1 + os.size + 1 + 1 + 1 + 1, 0, none⟩ (.bool true) = w2 at *
      haveI : Has w2 gg := ⟨hg3⟩
      haveI : Has w2 (w.heap.size + 1 + 1 + 1 + os.size + 1 + 1) := ⟨hp3⟩
      have HB2 := hid hB2
      clear hB2
      go_wp2_with fail
      refine (sort_two f g gg cp w2 k0 k1 k2 k3 k4 k5 hg3 H0.out H1.out H2.out H3.out H4.out).mono ?_
      rintro e wq ⟨rfl, hb⟩
      obtain ⟨os2, d2, rfl⟩ := plus_of_below hb
      have HBF : Hid (Below w.heap.size w (w2.plus os2 d2)) := hid (below_plus HB2.out (by have := HB2.out.size; omega) _ _)
      clear hb
      obtain ⟨ib, hib, hb0, hb1, hb2⟩ := info_parts Try.info29
      obtain ⟨ia, hia, ha0, ha1, ha2⟩ := info_parts Try.info3
      go_wp2_with fail
      go_loopw [16, 17, 50] (fun sb sn i wr => ∃ (k : Nat) (kk : Int) (cb cn : List Value), k ≤ 2 ∧ kk = k ∧ i = .int .i64 kk ∧ cn = ([f.2, g.2].take k).map (Value.int .i64) ∧ Two (w2.plus os2 d2) (w2.heap.size + os2.size) wr sb k cb sn k cn) (fun _ _ i _ => 2 - (intOf i).toNat)
      case atStart => exact ⟨0, 0, [], [], by omega, rfl, rfl, rfl, World.ownsRow_nil _ _ _ _, World.ownsRow_nil _ _ _ _, (fun g hg => by cases hg), Below.refl _ _, by simp⟩
      case round =>
        obtain ⟨k, kk, cb, cn, hk, hkk, rfl, rfl, T⟩ := hrel
        have cel : ∀ j, wr.cell? ⟨gg, j, none⟩ = w2.cell? ⟨gg, j, none⟩ := fun j => (T.bl.cell (p := ⟨gg, j, none⟩) (by show gg < w2.heap.size + os2.size; omega)).trans (by simp [go_sem])
        have r0 := (cel 0).trans k0
        have r1 := (cel 1).trans k1
        have r2 := (cel 2).trans k2
        have r3 := (cel 3).trans k3
        have r4 := (cel 4).trans k4
        have r5 := (cel 5).trans k5
        clear cel
        have nvb : some wr.heap.size ≠ u16.ownBlock := fun e => by have := (T.ob.lt _ e.symm).2; omega
        have nvn : some wr.heap.size ≠ u17.ownBlock := fun e => by have := (T.on.lt _ e.symm).2; omega
        have nvb1 : some (wr.heap.size + 1) ≠ u16.ownBlock := fun e => by have := (T.ob.lt _ e.symm).2; omega
        have nvn1 : some (wr.heap.size + 1) ≠ u17.ownBlock := fun e => by have := (T.on.lt _ e.symm).2; omega
        have nvb2 : some (wr.heap.size + 1 + 1) ≠ u16.ownBlock := fun e => by have := (T.ob.lt _ e.symm).2; omega
        have nvn2 : some (wr.heap.size + 1 + 1) ≠ u17.ownBlock := fun e => by have := (T.on.lt _ e.symm).2; omega
        have htop := T.top
        haveI : Has wr gg := ⟨by omega⟩
        have T := hid T
        have hcase : k = 0 ∨ k = 1 ∨ k = 2 := by omega
        rcases hcase with rfl | rfl | rfl
        · obtain rfl : kk = 0 := by omega
          clear hkk
          go_wp2_with fail
          go_region_held3 (fun W => W.cell? ⟨wr.heap.size, 0, none⟩ = some (.complex .f64 f.1.1.1 f.1.1.2) ∧ W.cell? ⟨wr.heap.size, 1, none⟩ = some (.complex .f64 f.1.2.1 f.1.2.2) ∧ W.cell? ⟨wr.heap.size, 2, none⟩ = some (.int .i64 f.2)) (refine ⟨?_, ?_, ?_⟩ <;> (first | (simp [go_sem]; done) | assumption | (simp [go_sem, z0, z1, z2]; done))) (first | (((refine step_app (by rfl) _ _ _ (by rfl) (w2.heap.size + os2.size) 29 ib _ 2 32 Try.underlying37 hib hb0 hb1 hb2 rfl (by omega) u16 0 cb (by rfl) (by apply Two.ob; (repeat' (first | exact T.out | apply Two.alloc | apply Two.drew))) [.complex .f64 f.1.1.1 f.1.1.2, .complex .f64 f.1.2.1 f.1.2.2] (by refine Exists.intro _ (Exists.intro _ (And.intro rfl (World.news_of_block (cs := #[.complex .f64 f.1.1.1 f.1.1.2, .complex .f64 f.1.2.1 f.1.2.2]) (t := 29) (fr := (0, 0)) ?_))); first | (simp only [block_drew, block_at]; done) | (simp only [block_drew, block_alloc', block_at]; done) | assumption) (by rfl) (by simp [Value.oneCell']) (by unfold maxLen; omega) (by omega) (by apply Two.top; (repeat' (first | exact T.out | apply Two.alloc | apply Two.drew))) ?_); intro g1 cp1 wa hown1 hgrow hat hlt; have y0 : wa.cell? ⟨wr.heap.size, 0, none⟩ = some (.complex .f64 f.1.1.1 f.1.1.2) := hgrow.cell (by first | (simp [go_sem]; done) | (simp [go_sem, z0, z1, z2]; done)) nvb; have y1 : wa.cell? ⟨wr.heap.size, 1, none⟩ = some (.complex .f64 f.1.2.1 f.1.2.2) := hgrow.cell (by first | (simp [go_sem]; done) | (simp [go_sem, z0, z1, z2]; done)) nvb; have y2 : wa.cell? ⟨wr.heap.size, 2, none⟩ = some (.int .i64 f.2) := hgrow.cell (by first | (simp [go_sem]; done) | (simp [go_sem, z0, z1, z2]; done)) nvb; have z0 := y0; have z1 := y1; have z2 := y2; clear y0 y1 y2; haveI : Has wa wr.heap.size := ⟨World.block_lt_of_cell? _ _ z0⟩; have x1n := hgrow.block (wr.heap.size + 1) (by first | (simp; done) | (simp; omega) | exact Has.lt) nvb1; (try (simp only [block_drew, block_alloc', block_at] at x1n)); (try (rw [x1] at x1n)); have x1 := x1n; clear x1n; haveI : Has wa (wr.heap.size + 1) := ⟨lt_of_block x1⟩; (try (have x2n := hgrow.block (wr.heap.size + 1 + 1) (by first | (simp; done) | (simp; omega) | exact Has.lt) nvb2; (try (simp only [block_drew, block_alloc', block_at] at x2n)); (try (rw [x2] at x2n)); have x2 := x2n; clear x2n; haveI : Has wa (wr.heap.size + 1 + 1) := ⟨lt_of_block x2⟩)); have TT := Two.moreB (by (repeat' (first | exact T.out | apply Two.alloc | apply Two.drew))) hown1 hgrow hat; have TT := hid TT; clear T; have T := TT; clear TT hown1 hgrow hat)) | (((refine step_app (by rfl) _ _ _ (by rfl) (w2.heap.size + os2.size) 3 ia _ 1 8 Try.underlying38 hia ha0 ha1 ha2 rfl (by omega) u17 0 (([f.2, g.2].take 0).map (Value.int .i64)) (by rfl) (by apply Two.on; (repeat' (first | exact T.out | apply Two.alloc | apply Two.drew))) [.int .i64 f.2] (by refine Exists.intro _ (Exists.intro _ (And.intro rfl (World.news_of_block (cs := #[.int .i64 f.2]) (t := 3) (fr := (0, 0)) ?_))); first | (simp only [block_drew, block_at]; done) | (simp only [block_drew, block_alloc', block_at]; done) | assumption) (by rfl) (by simp [Value.oneCell']) (by unfold maxLen; omega) (by omega) (by apply Two.top; (repeat' (first | exact T.out | apply Two.alloc | apply Two.drew))) ?_); intro g1 cp1 wa hown1 hgrow hat hlt; have y0 : wa.cell? ⟨wr.heap.size, 0, none⟩ = some (.complex .f64 f.1.1.1 f.1.1.2) := hgrow.cell (by first | (simp [go_sem]; done) | (simp [go_sem, z0, z1, z2]; done)) nvn; have y1 : wa.cell? ⟨wr.heap.size, 1, none⟩ = some (.complex .f64 f.1.2.1 f.1.2.2) := hgrow.cell (by first | (simp [go_sem]; done) | (simp [go_sem, z0, z1, z2]; done)) nvn; have y2 : wa.cell? ⟨wr.heap.size, 2, none⟩ = some (.int .i64 f.2) := hgrow.cell (by first | (simp [go_sem]; done) | (simp [go_sem, z0, z1, z2]; done)) nvn; have z0 := y0; have z1 := y1; have z2 := y2; clear y0 y1 y2; haveI : Has wa wr.heap.size := ⟨World.block_lt_of_cell? _ _ z0⟩; have x1n := hgrow.block (wr.heap.size + 1) (by first | (simp; done) | (simp; omega) | exact Has.lt) nvn1; (try (simp only [block_drew, block_alloc', block_at] at x1n)); (try (rw [x1] at x1n)); have x1 := x1n; clear x1n; haveI : Has wa (wr.heap.size + 1) := ⟨lt_of_block x1⟩; (try (have x2n := hgrow.block (wr.heap.size + 1 + 1) (by first | (simp; done) | (simp; omega) | exact Has.lt) nvn2; (try (simp only [block_drew, block_alloc', block_at] at x2n)); (try (rw [x2] at x2n)); have x2 := x2n; clear x2n; haveI : Has wa (wr.heap.size + 1 + 1) := ⟨lt_of_block x2⟩)); have TT := Two.moreN (by (repeat' (first | exact T.out | apply Two.alloc | apply Two.drew))) hown1 hgrow hat; have TT := hid TT; clear T; have T := TT; clear TT hown1 hgrow hat)))
          all_goals
            go_wp2_with fail
            go_roundw
            case rel => exact ⟨1, 1, _, _, by omega, rfl, by rfl, rfl, T.out⟩
            case measure => simp [intOf]
        · obtain rfl : kk = 1 := by omega
          clear hkk
          go_wp2_with fail
          go_region_held3 (fun W => W.cell? ⟨wr.heap.size, 0, none⟩ = some (.complex .f64 g.1.1.1 g.1.1.2) ∧ W.cell? ⟨wr.heap.size, 1, none⟩ = some (.complex .f64 g.1.2.1 g.1.2.2) ∧ W.cell? ⟨wr.heap.size, 2, none⟩ = some (.int .i64 g.2)) (refine ⟨?_, ?_, ?_⟩ <;> (first | (simp [go_sem]; done) | assumption | (simp [go_sem, z0, z1, z2]; done))) (first | (((refine step_app (by rfl) _ _ _ (by rfl) (w2.heap.size + os2.size) 29 ib _ 2 32 Try.underlying37 hib hb0 hb1 hb2 rfl (by omega) u16 1 cb (by rfl) (by apply Two.ob; (repeat' (first | exact T.out | apply Two.alloc | apply Two.drew))) [.complex .f64 g.1.1.1 g.1.1.2, .complex .f64 g.1.2.1 g.1.2.2] (by refine Exists.intro _ (Exists.intro _ (And.intro rfl (World.news_of_block (cs := #[.complex .f64 g.1.1.1 g.1.1.2, .complex .f64 g.1.2.1 g.1.2.2]) (t := 29) (fr := (0, 0)) ?_))); first | (simp only [block_drew, block_at]; done) | (simp only [block_drew, block_alloc', block_at]; done) | assumption) (by rfl) (by simp [Value.oneCell']) (by unfold maxLen; omega) (by omega) (by apply Two.top; (repeat' (first | exact T.out | apply Two.alloc | apply Two.drew))) ?_); intro g1 cp1 wa hown1 hgrow hat hlt; have y0 : wa.cell? ⟨wr.heap.size, 0, none⟩ = some (.complex .f64 g.1.1.1 g.1.1.2) := hgrow.cell (by first | (simp [go_sem]; done) | (simp [go_sem, z0, z1, z2]; done)) nvb; have y1 : wa.cell? ⟨wr.heap.size, 1, none⟩ = some (.complex .f64 g.1.2.1 g.1.2.2) := hgrow.cell (by first | (simp [go_sem]; done) | (simp [go_sem, z0, z1, z2]; done)) nvb; have y2 : wa.cell? ⟨wr.heap.size, 2, none⟩ = some (.int .i64 g.2) := hgrow.cell (by first | (simp [go_sem]; done) | (simp [go_sem, z0, z1, z2]; done)) nvb; have z0 := y0; have z1 := y1; have z2 := y2; clear y0 y1 y2; haveI : Has wa wr.heap.size := ⟨World.block_lt_of_cell? _ _ z0⟩; have x1n := hgrow.block (wr.heap.size + 1) (by first | (simp; done) | (simp; omega) | exact Has.lt) nvb1; (try (simp only [block_drew, block_alloc', block_at] at x1n)); (try (rw [x1] at x1n)); have x1 := x1n; clear x1n; haveI : Has wa (wr.heap.size + 1) := ⟨lt_of_block x1⟩; (try (have x2n := hgrow.block (wr.heap.size + 1 + 1) (by first | (simp; done) | (simp; omega) | exact Has.lt) nvb2; (try (simp only [block_drew, block_alloc', block_at] at x2n)); (try (rw [x2] at x2n)); have x2 := x2n; clear x2n; haveI : Has wa (wr.heap.size + 1 + 1) := ⟨lt_of_block x2⟩)); have TT := Two.moreB (by (repeat' (first | exact T.out | apply Two.alloc | apply Two.drew))) hown1 hgrow hat; have TT := hid TT; clear T; have T := TT; clear TT hown1 hgrow hat)) | (((refine step_app (by rfl) _ _ _ (by rfl) (w2.heap.size + os2.size) 3 ia _ 1 8 Try.underlying38 hia ha0 ha1 ha2 rfl (by omega) u17 1 (([f.2, g.2].take 1).map (Value.int .i64)) (by rfl) (by apply Two.on; (repeat' (first | exact T.out | apply Two.alloc | apply Two.drew))) [.int .i64 g.2] (by refine Exists.intro _ (Exists.intro _ (And.intro rfl (World.news_of_block (cs := #[.int .i64 g.2]) (t := 3) (fr := (0, 0)) ?_))); first | (simp only [block_drew, block_at]; done) | (simp only [block_drew, block_alloc', block_at]; done) | assumption) (by rfl) (by simp [Value.oneCell']) (by unfold maxLen; omega) (by omega) (by apply Two.top; (repeat' (first | exact T.out | apply Two.alloc | apply Two.drew))) ?_); intro g1 cp1 wa hown1 hgrow hat hlt; have y0 : wa.cell? ⟨wr.heap.size, 0, none⟩ = some (.complex .f64 g.1.1.1 g.1.1.2) := hgrow.cell (by first | (simp [go_sem]; done) | (simp [go_sem, z0, z1, z2]; done)) nvn; have y1 : wa.cell? ⟨wr.heap.size, 1, none⟩ = some (.complex .f64 g.1.2.1 g.1.2.2) := hgrow.cell (by first | (simp [go_sem]; done) | (simp [go_sem, z0, z1, z2]; done)) nvn; have y2 : wa.cell? ⟨wr.heap.size, 2, none⟩ = some (.int .i64 g.2) := hgrow.cell (by first | (simp [go_sem]; done) | (simp [go_sem, z0, z1, z2]; done)) nvn; have z0 := y0; have z1 := y1; have z2 := y2; clear y0 y1 y2; haveI : Has wa wr.heap.size := ⟨World.block_lt_of_cell? _ _ z0⟩; have x1n := hgrow.block (wr.heap.size + 1) (by first | (simp; done) | (simp; omega) | exact Has.lt) nvn1; (try (simp only [block_drew, block_alloc', block_at] at x1n)); (try (rw [x1] at x1n)); have x1 := x1n; clear x1n; haveI : Has wa (wr.heap.size + 1) := ⟨lt_of_block x1⟩; (try (have x2n := hgrow.block (wr.heap.size + 1 + 1) (by first | (simp; done) | (simp; omega) | exact Has.lt) nvn2; (try (simp only [block_drew, block_alloc', block_at] at x2n)); (try (rw [x2] at x2n)); have x2 := x2n; clear x2n; haveI : Has wa (wr.heap.size + 1 + 1) := ⟨lt_of_block x2⟩)); have TT := Two.moreN (by (repeat' (first | exact T.out | apply Two.alloc | apply Two.drew))) hown1 hgrow hat; have TT := hid TT; clear T; have T := TT; clear TT hown1 hgrow hat)))
          all_goals
            go_wp2_with fail
            go_roundw
            case rel => exact ⟨2, 2, _, _, by omega, rfl, by rfl, rfl, T.out⟩
            case measure => simp [intOf]
        · obtain rfl : kk = 2 := by omega
          clear hkk
          obtain ⟨gb, cb', rfl, -, -⟩ := T.out.ob.form (by decide)
          obtain ⟨gn, cn', rfl, -, hgn⟩ := T.out.on.form (by decide)
          have y0 := T.out.on.cellAt 0 (by simp)
          have y1 := T.out.on.cellAt 1 (by simp)
          simp at y0 y1
          have HBW := hid (HBF.out.trans (T.out.bl.mono (B' := w.heap.size) (by have := HB2.out.size; omega)))
          clear T
          go_wp2_with fail
          go_ret3
          exact ⟨⟨_, _, gn, cn', rfl, y0, y1, hgn⟩, HBW.out⟩
end Go.Proofs.Ytbocjicihamahaa
