/- A part: CM, CN, CO, CP, CQ, CR. -/
import Derived.Test.YthjeejnggpjnjaaGreatDoorZY17
set_option linter.unusedSimpArgs false
set_option linter.unusedVariables false
set_option maxRecDepth 100000
set_option maxHeartbeats 16000000
set_option synthInstance.maxHeartbeats 2000000
set_option synthInstance.maxSize 100000
namespace Go.Proofs.YthjeejnggpjnjaaGreatDoor
open Go.RowKit
def absd (a b : Int) : Int := max (a - b) (b - a)
def pairT (p q : List Int) : Int := absd (endsI p).1 (endsI q).1 - absd (endsI p).2 (endsI q).2
def turnN (l : List (List Int)) : Nat → Int
 | 0 => 0
 | j + 1 => turnN l j + pairT (l.getD j []) (l.getD (j + 1) [])
def turnI (l : List (List Int)) : Int := turnN l (l.length - 1)
theorem sign_bound (x : Int) : -1 ≤ x.sign ∧ x.sign ≤ 1 := by
 rcases Int.lt_trichotomy x 0 with h | h | h
 · rw [Int.sign_eq_neg_one_of_neg h]; decide
 · rw [h]; decide
 · rw [Int.sign_eq_one_of_pos h]; decide
theorem ends_bound (l : List Int) : (-1 ≤ (endsI l).1 ∧ (endsI l).1 ≤ 1) ∧ (-1 ≤ (endsI l).2 ∧ (endsI l).2 ≤ 1) := by
 unfold endsI
 split
 · decide
 · exact ⟨sign_bound _, sign_bound _⟩
theorem absd_bound {a b : Int} (ha : -1 ≤ a ∧ a ≤ 1) (hb : -1 ≤ b ∧ b ≤ 1) : 0 ≤ absd a b ∧ absd a b ≤ 2 := by unfold absd; omega
theorem pairT_bound (p q : List Int) : -2 ≤ pairT p q ∧ pairT p q ≤ 2 := by
 obtain ⟨h1, h2⟩ := ends_bound p; obtain ⟨k1, k2⟩ := ends_bound q; have a := absd_bound h1 k1; have b := absd_bound h2 k2; unfold pairT; omega
theorem turnN_bound (l : List (List Int)) (j : Nat) : -(2 * (j : Int)) ≤ turnN l j ∧ turnN l j ≤ 2 * (j : Int) := by
 induction j with
 | zero =>
   rw [turnN]; omega
 | succ j ih =>
   have := pairT_bound (l.getD j []) (l.getD (j + 1) []); rw [turnN]; omega
def OkR (l : List (List Int)) : Prop := l ≠ [] ∧ l.length ≤ 64 ∧ ∀ P ∈ l, P.length ≤ 17 ∧ SzI 40000000000 P
theorem getL_some {l : List (List Int)} {i : Nat} (h : i < l.length) : l[i]? = some (l.getD i []) := by
 rw [List.getElem?_eq_getElem h, List.getD_eq_getElem?_getD, List.getElem?_eq_getElem h]; rfl
theorem gaTurned {w : World} {v : Value} {l : List (List Int)} (h : Rw 101 (Rw 160 EI) w v l) (ok : OkR l) :
 Calls Tryz.prog 67 #[v] w fun e w' => e = .returned (.int .i64 (turnI l)) ∧ Kp0 w w' := by
 obtain ⟨a, cap, rfl, hcap⟩ := h.form; have HH := hid h; have EN := hid (fun (W : World) (u : Value) (P : List Int) (hP : P ∈ l) (hu : Rw 160 EI W u P) => gaEnds hu (by have := (ok.2.2 P hP).1; omega) (ok.2.2 P hP).2 (by decide))
 obtain ⟨n, hn⟩ : ∃ n, l.length = n + 1 := ⟨l.length - 1, by have := List.length_pos_iff.2 ok.1; omega⟩
 have HN := hid hn; have HT := hid (show turnI l = turnN l n by unfold turnI; rw [hn, Nat.add_sub_cancel])
 have hn64 : (n : Int) ≤ 64 := by have := ok.2.1; omega
 have hn0 : (0 : Int) ≤ (n : Int) := by omega
 have e1 : ((n + 1 : Nat) : Int) - 1 = (n : Int) := by omega
 rw [hn] at HH ⊢; obtain ⟨V, hV⟩ : ∃ V, V = turnI l := ⟨_, rfl⟩; rw [← hV]; have HV := hid (hV.trans HT.out); clear h ok hcap hV hn HT; go_enter Tryz.func67, Tryz.ntmps67; go_wp2_with fail
 go_loopw [3, 12] (fun s3 s12 wx => ∃ j : Nat, s3 = .int .i64 (turnN l j) ∧ s12 = .int .i64 j ∧ j ≤ n ∧ Kp0 w wx) (fun _ s12 _ => n - (intOf s12).toNat)
 case atStart => exact ⟨0, rfl, rfl, Nat.zero_le _, ⟨Gr.out⟩⟩
 case round =>
  obtain ⟨j, rfl, rfl, hj, ik⟩ := hrel; by_cases hjn : j = n
  · subst hjn; clear hj; go_wp2_with fail
    go_ret
    exact ⟨by rw [HV.out]; rfl, ⟨Gr.out⟩⟩
  · have hlt : j < n := by omega
    have hI : (j : Int) < (n : Int) := by omega
    have h0 : (0 : Int) ≤ (j : Int) := by omega
    have j1 : (j : Int) < ((n + 1 : Nat) : Int) := by omega
    have j2 : ((j + 1 : Nat) : Int) < ((n + 1 : Nat) : Int) := by omega
    have hp := getL_some (l := l) (i := j) (by rw [HN.out]; omega)
    have hq := getL_some (l := l) (i := j + 1) (by rw [HN.out]; omega)
    obtain ⟨g, off, u, rfl, hg, cp, hP⟩ := HH.out.at hp; obtain ⟨g', off', u', he, -, cq, hQ⟩ := HH.out.at hq; simp only [Option.some.injEq, Addr.mk.injEq, and_true] at he; obtain ⟨rfl, rfl⟩ := he; haveI : Has w g := ⟨hg⟩; have E1 := hid (fun W (q : Gr w W) => EN.out W u _ (List.mem_of_getElem? hp) (hP.below eok_EI q.out))
    have E2 := hid (fun W (q : Gr w W) => EN.out W u' _ (List.mem_of_getElem? hq) (hQ.below eok_EI q.out))
    have hTN := hid (show turnN l (j + 1) = turnN l j + (absd (endsI (l.getD j [])).1 (endsI (l.getD (j + 1) [])).1 - absd (endsI (l.getD j [])).2 (endsI (l.getD (j + 1) [])).2) from rfl)
    have bT := turnN_bound l j; obtain ⟨⟨b1, b2⟩, b3, b4⟩ := ends_bound (l.getD j []); obtain ⟨⟨b5, b6⟩, b7, b8⟩ := ends_bound (l.getD (j + 1) []); generalize (endsI (l.getD j [])).1 = x1 at *; generalize (endsI (l.getD j [])).2 = y1 at *; generalize (endsI (l.getD (j + 1) [])).1 = x2 at *; generalize (endsI (l.getD (j + 1) [])).2 = y2 at *; generalize hT : turnN l j = T at *; have t1 : -200 ≤ T := by omega
    have t2 : T ≤ 200 := by omega
    have w1 : IntKind.i64.wrap (x1 - x2) = x1 - x2 := IntWalk.i64_in _ (by omega)
    have w2 : IntKind.i64.wrap (x2 - x1) = x2 - x1 := IntWalk.i64_in _ (by omega)
    have w3 : IntKind.i64.wrap (y1 - y2) = y1 - y2 := IntWalk.i64_in _ (by omega)
    have w4 : IntKind.i64.wrap (y2 - y1) = y2 - y1 := IntWalk.i64_in _ (by omega)
    clear hp hq hP hQ hj hjn hT bT; go_wp2_with (first | (go_at_call 114; (with_reducible refine Calls.mono (E1.out _ inferInstance) ?_); rintro e wa ⟨rfl, _⟩) | (go_at_call 114; (with_reducible refine Calls.mono (E2.out _ inferInstance) ?_); rintro e wb ⟨rfl, _⟩))
    go_round
    case rel =>
     refine ⟨j + 1, ?_, by go_num, hlt, ⟨Gr.out⟩⟩
     simp only [Value.int.injEq, true_and]; rw [hTN.out]; unfold absd; omega
    case measure => first | (simp [intOf]; done) | (simp [intOf]; omega)
def slopeN (l : List Int) (i : Nat) : List Int := (List.range i).map (fun i => l.getD (i + 1) 0 * ((i + 1 : Nat) : Int))
def slopeI (l : List Int) : List Int := slopeN l (l.length - 1)
def zeroI (l : List Int) : Bool := decide ((endsI l).1 = 0) || (decide ((endsI l).2 = 0) || decide (turnI (rowI l (slopeI l)) ≠ 0))
theorem slopeN_len (l : List Int) (i : Nat) : (slopeN l i).length = i := by unfold slopeN; rw [List.length_map, List.length_range]
theorem slopeN_next (l : List Int) (i : Nat) : slopeN l (i + 1) = slopeN l i ++ [l.getD (i + 1) 0 * ((i + 1 : Nat) : Int)] := by
 unfold slopeN; rw [List.range_succ, List.map_append]; rfl
theorem chainI_ok {A : Nat} (hA : 1 ≤ A) : ∀ (k : Nat) (p q : List Int), RowI A p q → ∀ P ∈ chainI k p q, P.length ≤ 17 ∧ SzI (growF A 0) P := by
 have g0 : ∀ n, A ≤ growF A n := fun n => Nat.le_mul_of_pos_right _ (Nat.pow_pos (by decide))
 have hp : ∀ p q : List Int, RowI A p q → p.length ≤ 17 ∧ SzI (growF A 0) p := by
  intro p q h; rcases h with ⟨h1, h2, h3, h4⟩ | ⟨h1, h2, h3, h4⟩
  · exact ⟨h1, h3.mono (g0 0)⟩
  · exact ⟨h1, h3.mono (growF_mono (Nat.zero_le _))⟩
 intro k
 induction k with
 | zero =>
   intro p q h P hP; obtain rfl : P = p := by simpa [chainI] using hP
   exact hp P q h
 | succ k ih =>
   intro p q h P hP; rw [chainI] at hP; by_cases hq : q = []
   · rw [if_pos hq] at hP; obtain rfl : P = p := by simpa using hP
     exact hp P q h
   · rw [if_neg hq] at hP; rcases List.mem_cons.1 hP with rfl | hP
     · exact hp P q h
     · exact ih q _ (h.step hA hq) P hP
theorem chainI_len : ∀ (k : Nat) (p q : List Int), (chainI k p q).length ≤ k + 1 ∧ chainI k p q ≠ [] := by
 intro k
 induction k with
 | zero => intro p q; exact ⟨Nat.le_refl _, by simp [chainI]⟩
 | succ k ih =>
   intro p q; rw [chainI]
   split
   · exact ⟨by simp, by simp⟩
   · refine ⟨?_, by simp⟩
     have := (ih q (lessI p q)).1; rw [List.length_cons]; omega
theorem rowI_ok {A : Nat} {p q : List Int} (hA1 : 1 ≤ A) (hA : A ≤ 300) (h : RowI A p q) : OkR (rowI p q) := by
 have h1 := chainI_len (q.length + 1) p q; refine ⟨h1.2, ?_, fun P hP => ?_⟩
 · have := h.lens; have := h1.1; unfold rowI; omega
 · have := chainI_ok hA1 _ p q h P hP; refine ⟨this.1, this.2.mono ?_⟩
   unfold growF; exact Nat.le_trans (Nat.mul_le_mul_right _ hA) (by decide)
def OkZ (A : Nat) (l : List Int) : Prop := l.length ≤ 17 ∧ SzI (growF A l.length) l
theorem small_len {n : Nat} (h : n < 4294967296) : (words n).length ≤ 1 := words_len_le (by rw [Nat.pow_one]; exact h)
theorem slope_inv {A : Nat} {l : List Int} (hA : 1 ≤ A) (h : OkZ A l) (h0 : l ≠ []) : InvC A l (slopeI l) := by
 obtain ⟨h1, h2⟩ := h; have hp : 0 < l.length := List.length_pos_iff.2 h0; have e : (slopeI l).length = l.length - 1 := slopeN_len _ _; refine ⟨h1, by omega, h2, fun x hx => ?_⟩
 obtain ⟨i, hi, rfl⟩ := List.mem_map.1 hx; rw [List.mem_range] at hi; have a := getD_len h2 (i + 1); have b : (words (((i + 1 : Nat) : Int)).natAbs).length ≤ 1 := small_len (by rw [Int.natAbs_natCast]; omega)
 refine Nat.le_trans (mulI_len a b) ?_
 have e1 : growF A (l.length - 1) = 3 * growF A l.length := by
  unfold growF; rw [show 17 - (l.length - 1) = (17 - l.length) + 1 by omega, Nat.pow_succ]
  grind
 have f1 : 1 ≤ growF A l.length := Nat.mul_pos (by omega) (Nat.pow_pos (by decide))
 omega
theorem step_row {α : Type} {T : Nat} {E : World → Value → α → Prop} (e : EOk T E) {ops : Array Oper} {o : Oper} {a : Act} {w : World} {K : Act → World → Prop} {Q : Exit → Act → World → Prop} {F : Prop} (hgd : o.guard = none) (s x : Operand) (t : TypeId)
 (ho : o.op = .call { callee := .builtin .append, args := #[s, x], argTypes := #[t, t] }) (base : Nat) (i : TypeInfo) (z : Value) (bytes : Nat) (ht : Tryz.prog.underlying t = some (.slice T)) (hi : Tryz.prog.info? T = some i) (hz : i.zero = some z)
 (hsize : i.size = 1) (hby : i.bytes = bytes) (hzs : z.cells.size = 1) (hb64 : bytes ≤ 64) {v : Value} {l m : List α} (hs : a.eval s = v) (hown : Ox T E base w v l)
 {ad : Option Addr} {k c : Nat} (hx : a.eval x = .slice ad k c) (hm : Rw T E w (.slice ad k c) m) (h0 : 0 < m.length) (hlen : l.length + m.length ≤ 1048576) (hbase : base ≤ w.heap.size)
 (h : ∀ g cap n' w', n' = l.length + m.length → Ox T E base w' (.slice (some ⟨g, 0, none⟩) n' cap) (l ++ m) → base ≤ g → (∀ v0 : World, v0.heap.size ≤ base → Below v0.heap.size v0 w → Below v0.heap.size v0 w') → (∀ u y, E w u y → E w' u y) → K (a.put o.dst (.slice (some ⟨g, 0, none⟩) n' cap)) w') :
 if Region.wanted o (yielded ops a.tmps) = true then Oper.wp Tryz.prog o a w K Q else F := by
 obtain ⟨g0, off0, rfl, news, hl, hc, hE⟩ := hm.news h0
 obtain ⟨cap0, hk, -⟩ : ∃ cap0, k = m.length ∧ cap0 = c := by
  obtain ⟨a', cap', h1, -, -⟩ := hm; simp only [Value.slice.injEq] at h1; exact ⟨c, h1.2.1, rfl⟩
 subst hk; obtain ⟨xs, hown2, hEx⟩ := hown
 have h1c : ∀ u ∈ news, u.oneCell' = true := by
  intro u hu; obtain ⟨j, hj⟩ := List.getElem?_of_mem hu; obtain ⟨hjl, -⟩ := List.getElem?_eq_some_iff.1 hj; obtain ⟨u', q1, q2⟩ := hE j m[j] (List.getElem?_eq_getElem (by omega))
  rw [hj] at q1; rw [Option.some.inj q1]; exact e.one q2
 have hby2 : (l.length + m.length) * bytes ≤ 140737488355328 := by
  have : (l.length + m.length) * bytes ≤ 1048576 * 64 := Nat.mul_le_mul hlen hb64; omega
 refine step_append_lies w hgd s x t ho base T i z 1 bytes ht hi hz hsize hby hzs (by decide) v l.length xs hs hown2 ⟨g0, off0, none⟩ m.length c news hx (by omega) hc h1c h0 (by unfold maxLen; omega) hby2 hbase _ rfl (fun g cap w' r1 r2 r3 r4 => ?_)
 have hxl : xs.length = l.length := by rw [hown2.1, Nat.mul_one]
 have kE : ∀ u y, E w u y → E w' u y := by
  intro u y hu; rcases hown2.2 with ⟨rfl, -⟩ | ⟨g1, cap1, cur1, rfl, hb1, hg1, -⟩
  · exact e.below hu (Keeps.below ⟨r2.os, r2.tape, r2.output, r2.size, fun q hq _ => r2.block q hq (by simp [Value.ownBlock])⟩)
  · exact e.keep hg1 ⟨r2.os, r2.tape, r2.output, r2.size, fun q hq hn => r2.block q hq (by simpa [Value.ownBlock] using hn)⟩ hu
 have hgb : base ≤ g := by
  rcases r1.2 with ⟨hh, -⟩ | ⟨g2, cap2, cur2, hh, hb2, -⟩
  · cases hh
  · simp only [Value.slice.injEq, Option.some.injEq, Addr.mk.injEq] at hh; omega
 refine h g cap _ w' rfl ⟨xs ++ news, ?_, fun j y hy => ?_⟩ hgb (fun v0 hv hb => ?_) kE
 · rw [List.length_append]; exact r1
 · rcases Nat.lt_or_ge j l.length with hj | hj
   · rw [List.getElem?_append_left hj] at hy; obtain ⟨u, q1, q2⟩ := hEx j y hy; exact ⟨u, by rw [List.getElem?_append_left (by omega)]; exact q1, kE _ _ q2⟩
   · rw [List.getElem?_append_right hj] at hy; obtain ⟨u, q1, q2⟩ := hE _ y hy; exact ⟨u, by rw [List.getElem?_append_right (by omega), hxl]; exact q1, kE _ _ q2⟩
 · refine ⟨r2.os.trans hb.os, r2.tape.trans hb.tape, r2.output.trans hb.output, Nat.le_trans hb.size r2.size, fun q hq => ?_⟩
   refine (r2.block q (Nat.lt_of_lt_of_le hq hb.size) (fun hh => ?_)).trans (hb.block q hq)
   rcases hown2.2 with ⟨rfl, -⟩ | ⟨g1, cap1, cur1, rfl, hb1, -⟩
   · cases hh
   · simp only [Value.ownBlock, Option.some.injEq] at hh; omega
theorem step_z {ops : Array Oper} {dst : Option Nat} {ty : TypeId} {ps : String} {af : Array Edge} {a : Act} {w : World} {K : Act → World → Prop} {Q : Exit → Act → World → Prop} {F : Prop} {s x : Operand} (base : Nat) {v : Value} {l m : List Int} (hs : a.eval s = v) (hown : Ox 160 EI base w v l)
 {ad : Option Addr} {k c : Nat} (hx : a.eval x = .slice ad k c) (hm : Rw 160 EI w (.slice ad k c) m) (h0 : 0 < m.length) (hlen : l.length + m.length ≤ 1048576) (hbase : base ≤ w.heap.size)
 (h : ∀ g cap n' w', n' = l.length + m.length → Ox 160 EI base w' (.slice (some ⟨g, 0, none⟩) n' cap) (l ++ m) → base ≤ g → (∀ v0 : World, v0.heap.size ≤ base → Below v0.heap.size v0 w → Below v0.heap.size v0 w') → (∀ u y, EI w u y → EI w' u y) → K (a.put dst (.slice (some ⟨g, 0, none⟩) n' cap)) w') :
 if Region.wanted { dst := dst, op := .call { callee := .builtin .append, args := #[s, x], argTypes := #[101, 101] }, type := ty, pos := ps, after := af, guard := none } (yielded ops a.tmps) = true then Oper.wp Tryz.prog { dst := dst, op := .call { callee := .builtin .append, args := #[s, x], argTypes := #[101, 101] }, type := ty, pos := ps, after := af, guard := none } a w K Q else F := by
 obtain ⟨ti, hti, htz, hts, htb⟩ := info_parts info160z; exact step_row eok_EI rfl s x 101 rfl base ti _ 8 und101z hti htz hts htb rfl (by decide) hs hown hx hm h0 hlen hbase h
theorem make_own {ops : Array Oper} {rest : List Oper} {o : Oper} {a : Act} {Q : Exit → Act → World → Prop} (w : World) (hg : o.guard = none) (l c : Operand) (hop : o.op = Op.makeSlice 101 l c)
 (C : Int) (n : Nat) (hl : a.eval l = .int .i64 0) (hc : a.eval c = .int .i64 C) (hC : C = (n : Int)) (hn : n ≤ 1048576)
 (hK : ∀ w1, Ox 160 EI w.heap.size w1 (.slice (some ⟨w.heap.size, 0, none⟩) 0 n) [] → Kp0 w w1 → wpList Tryz.prog ops Q rest (a.put o.dst (.slice (some ⟨w.heap.size, 0, none⟩) 0 n)) w1) :
 wpList Tryz.prog ops Q (o :: rest) a w := by
 obtain ⟨ti, hti, htz, hts, htb⟩ := info_parts info160z; refine wpList_make_own w hg l c 101 hop w.heap.size 160 ti _ 1 und101z hti htz hts .i64 .i64 C n hl hc hC (by rw [htb]; omega) (by unfold maxLen; omega) (Nat.le_refl _) (fun w1 hown hgrow => ?_)
 exact hK w1 ⟨[], hown, fun i x h => by cases h⟩ ⟨Keeps.below ⟨hgrow.os, hgrow.tape, hgrow.output, hgrow.size, fun k hk _ => hgrow.block k hk (by simp)⟩⟩
theorem gaZero1 {w : World} {v : Value} {l : List Int} {A : Nat} [hv : VrB w] (h : Rw 160 EI w v l) (hA1 : 1 ≤ A) (hA : A ≤ 300) (ok : OkZ A l) (h1 : (endsI l).1 = 0) :
 Calls Tryz.prog 68 #[v] w fun e w' => e = .returned (.bool true) ∧ Kp0 w w' := by
 have E := hid (gaEnds h (by have := ok.1; omega) (ok.2.mono (growF_mono (Nat.zero_le _))) (Nat.le_trans (Nat.mul_le_mul_right _ hA) (by decide)))
 have b1 : ((endsI l).1 == 0) = true := beq_iff_eq.2 h1
 skip
 generalize (endsI l).1 = x1 at *; generalize (endsI l).2 = x2 at *; clear h ok h1; go_enter Tryz.func68, Tryz.ntmps68; go_wp2_with (go_at_call 114; (with_reducible refine Calls.mono E.out ?_); rintro e wa ⟨rfl, _⟩)
 go_ret
 exact ⟨rfl, ⟨Gr.out⟩⟩
theorem gaZero2 {w : World} {v : Value} {l : List Int} {A : Nat} [hv : VrB w] (h : Rw 160 EI w v l) (hA1 : 1 ≤ A) (hA : A ≤ 300) (ok : OkZ A l) (h1 : (endsI l).1 ≠ 0) (h2 : (endsI l).2 = 0) :
 Calls Tryz.prog 68 #[v] w fun e w' => e = .returned (.bool true) ∧ Kp0 w w' := by
 have E := hid (gaEnds h (by have := ok.1; omega) (ok.2.mono (growF_mono (Nat.zero_le _))) (Nat.le_trans (Nat.mul_le_mul_right _ hA) (by decide)))
 have b1 : ((endsI l).1 == 0) = false := beq_eq_false_iff_ne.2 h1; have b2 : ((endsI l).2 == 0) = true := beq_iff_eq.2 h2; generalize (endsI l).1 = x1 at *; generalize (endsI l).2 = x2 at *; clear h ok h1 h2; go_enter Tryz.func68, Tryz.ntmps68; go_wp2_with (go_at_call 114; (with_reducible refine Calls.mono E.out ?_); rintro e wa ⟨rfl, _⟩)
 go_ret
 exact ⟨rfl, ⟨Gr.out⟩⟩
theorem gaZero3 {w : World} {v : Value} {l : List Int} {A : Nat} [hv : VrB w] (h : Rw 160 EI w v l) (hA1 : 1 ≤ A) (hA : A ≤ 300) (ok : OkZ A l) (h1 : (endsI l).1 ≠ 0) (h2 : (endsI l).2 ≠ 0) :
 Calls Tryz.prog 68 #[v] w fun e w' => e = .returned (.bool (decide (turnI (rowI l (slopeI l)) ≠ 0))) ∧ Kp0 w w' := by
 have E := hid (gaEnds h (by have := ok.1; omega) (ok.2.mono (growF_mono (Nat.zero_le _))) (Nat.le_trans (Nat.mul_le_mul_right _ hA) (by decide)))
 have b1 : ((endsI l).1 == 0) = false := beq_eq_false_iff_ne.2 h1; have b2 : ((endsI l).2 == 0) = false := beq_eq_false_iff_ne.2 h2
 have hne : l ≠ [] := by
  intro hh; subst hh; exact h1 rfl
 generalize hT : turnI (rowI l (slopeI l)) = T; have HTT := hid hT; have HBN := hid (show (T != 0) = decide (T ≠ 0) by by_cases h : T = 0 <;> simp [h])
 clear hT; have HINV := hid (slope_inv hA1 ok hne); have HRI := hid (show RowI A l (slopeI l) from Or.inr (slope_inv hA1 ok hne))
 have HRK := hid (rowI_ok hA1 hA (.inr (slope_inv hA1 ok hne))); have HA := hid (And.intro hA1 hA); have KG0 := hid (fun i => getD_len (ok.2.mono (growF_mono (Nat.zero_le _))) i)
 have HG0 := hid (show growF A 0 ≤ 100000000000 from Nat.le_trans (Nat.mul_le_mul_right _ hA) (by decide))
 generalize (endsI l).1 = x1 at *; generalize (endsI l).2 = x2 at *; obtain ⟨a, cap, rfl, hcap⟩ := h.form; have HH := hid h; obtain ⟨n, hn⟩ : ∃ n, l.length = n + 1 := ⟨l.length - 1, by have := List.length_pos_iff.2 hne; omega⟩
 have HN := hid hn; have HS := hid (show slopeI l = slopeN l n by unfold slopeI; rw [hn, Nat.add_sub_cancel])
 have n17 : n + 1 ≤ 17 := by have := ok.1; omega
 rw [hn] at HH E ⊢; clear h ok h1 h2 hne hcap hn hA hA1; go_enter Tryz.func68, Tryz.ntmps68; go_wp2_with (first | (go_at_call 114; (with_reducible refine Calls.mono E.out ?_); rintro e wa ⟨rfl, _⟩) | (at_make; refine make_own _ rfl _ _ rfl _ (n + 1) rfl rfl (by first | rfl | simp) (by omega) ?_; intro wm hO0 hKm))
 have H0 := hid hO0; clear hO0; go_loopw [5, 6] (fun s5 s6 wx => ∃ (j g n5 c5 : Nat), s5 = .slice (some ⟨g, 0, none⟩) n5 c5 ∧ s6 = .int .i64 (j : Int) ∧ j ≤ n + 1 ∧ Hid (1 ≤ j) ∧ Hid (n5 = j - 1) ∧ Ox 160 EI w.heap.size wx (.slice (some ⟨g, 0, none⟩) n5 c5) (slopeN l (j - 1)) ∧ Kp0 w wx) (fun _ s6 _ => n + 1 - (intOf s6).toNat)
 case atStart => exact ⟨1, _, _, _, rfl, rfl, by omega, hid (Nat.le_refl _), hid rfl, H0.out.mono (Gr.out (v := w) (W := wa)).size, ⟨Gr.out⟩⟩
 case round =>
  obtain ⟨j, g, n5, c5, rfl, rfl, hi, h1j, h5, hO, ik⟩ := hrel; by_cases hin : j = n + 1
  · have HB : Hid (Rw 160 EI wr (.slice (some ⟨g, 0, none⟩) n5 c5) (slopeI l)) := hid (by rw [HS.out, show n = j - 1 by omega]; exact hO.rw)
    have hcmp : ¬ (j : Int) < ((n + 1 : Nat) : Int) := by omega
    have HH2 := hid (HH.out.below eok_EI (Gr.out (v := w) (W := wr))); clear hO hi hin; go_wp2_with (first | (go_at_call 66; (with_reducible refine Calls.mono (gaRow (hv := ⟨VrC.out⟩) HH2.out HB.out HA.out.1 HA.out.2 HRI.out) ?_); rintro e wb ⟨vb, rfl, hvb, _⟩; have HVB := hid hvb; clear hvb) | (go_at_call 67; (with_reducible refine Calls.mono (gaTurned HVB.out HRK.out) ?_); rintro e wc ⟨rfl, _⟩; rw [HTT.out]))
    go_ret
    refine ⟨?_, ⟨Gr.out⟩⟩
    rw [← HBN.out]; rfl
  · have hlt : j < n + 1 := by omega
    have hI : (j : Int) < ((n + 1 : Nat) : Int) := by omega
    have hI2 : (j : Int) < (n : Int) + 1 := by omega
    have h0 : (0 : Int) ≤ (j : Int) := by omega
    have h63 : (j : Int) ≤ 100 := by omega
    have Q12 := hid (show -9223372036854775808 ≤ (j : Int) ∧ (j : Int) < 9223372036854775808 by omega)
    have hx := getD_some (l := l) (i := j) (by rw [HN.out]; omega)
    obtain ⟨gp, offp, u, rfl, hgp, cj, kp, rfl, hIp⟩ := HH.out.at hx; haveI : Has w gp := ⟨hgp⟩; haveI : InC w kp (l.getD j 0) := ⟨hIp⟩
    have KM : Hid ((words (l.getD j 0).natAbs).length + (words ((j : Int)).natAbs).length ≤ 137438953472) := hid (by
     have a := KG0.out j; have b : (words ((j : Int)).natAbs).length ≤ 1 := small_len (by rw [Int.natAbs_natCast]; omega)
     have := HG0.out
     omega)
    have HO := hid hO; have HLT := hid hlt; have HLE := hid (show (slopeN l (j - 1)).length + [l.getD j 0 * (j : Int)].length ≤ 1048576 by rw [slopeN_len]; simp; omega)
    have HNX := hid (show slopeN l j = slopeN l (j - 1) ++ [l.getD j 0 * (j : Int)] by
     have := slopeN_next l (j - 1); rw [show j - 1 + 1 = j by have := h1j.out; omega] at this
     exact this)
    clear hx hIp hO hi hin hlt; go_wp2_with fail
    go_region_held3 (fun W => W.cell? ⟨gp, offp + j, none⟩ = some (.pointer (some ⟨kp, 0, none⟩))) (first | exact Bk.cell BkC.out rfl | (simp [go_sem]; done) | (simp [go_sem, cj]; done)) (first | (go_at_call 116; (with_reducible refine Calls.mono (bNewC Q12.out.1 Q12.out.2) ?_); rintro e wc ⟨kn, rfl, _, _, _⟩) | (go_at_call 115; (with_reducible refine Calls.mono (biMulC KM.out) ?_); rintro e wc ⟨rfl, _, _⟩) | (refine step_z w.heap.size rfl (HO.out.below eok_EI (Gr.out (v := wr))) rfl (Ox.one eok_EI ⟨_, rfl, InC.out⟩).rw Nat.one_pos HLE.out ?_ ?_; (focus (rw [World.size_alloc]; exact Nat.le_succ_of_le (Gr.out (v := w)).size)); intro g' cap' n' wz hn' ho' hg' hbl hke; have HN' := hid hn'; have HO' := hid ho'; clear hn' ho' hke; haveI ka : Kp0 w wz := ⟨hbl w (Nat.le_refl _) (Gr.out (v := w))⟩))
    all_goals (go_wp2_with fail)
    all_goals go_round
    all_goals first
     | (refine ⟨j + 1, _, _, _, rfl, by go_num, HLT.out, hid (Nat.le_add_left 1 j), hid ?_, ?_, ⟨Gr.out⟩⟩
        · rw [HN'.out, slopeN_len, List.length_singleton]; have := h1j.out; omega
        · rw [Nat.add_sub_cancel, HNX.out]; exact HO'.out.below eok_EI Gr.out)
     | (simp [intOf]; done)
     | (simp [intOf]; omega)
theorem gaZero {w : World} {v : Value} {l : List Int} {A : Nat} [hv : VrC w] (h : Rw 160 EI w v l) (hA1 : 1 ≤ A) (hA : A ≤ 300) (ok : OkZ A l) :
 Calls Tryz.prog 68 #[v] w fun e w' => e = .returned (.bool (zeroI l)) ∧ Kp0 w w' := by
 unfold zeroI; by_cases h1 : (endsI l).1 = 0
 · rw [decide_eq_true h1, Bool.true_or]; exact gaZero1 (hv := ⟨hv.out⟩) h hA1 hA ok h1
 · rw [decide_eq_false h1, Bool.false_or]; by_cases h2 : (endsI l).2 = 0
   · rw [decide_eq_true h2, Bool.true_or]; exact gaZero2 (hv := ⟨hv.out⟩) h hA1 hA ok h1 h2
   · rw [decide_eq_false h2, Bool.false_or]; exact gaZero3 (hv := ⟨hv.out⟩) h hA1 hA ok h1 h2
def midB (x : Nat) : Bool := decide (x % 9223372036854775808 = 0) || (decide (4427038433705197568 ≤ x % 9223372036854775808 ∧ x % 9223372036854775808 ≤ 9218868437227405312) && decide (x % 9223372036854775808 ≤ 4787326403894837248))
@[go_sem] theorem run_index194_0 (a b : Nat) (w : World) : (Instr.index 194 (.agg #[.float .f64 a, .float .f64 b]) (.int .i64 0)).run Tryz.prog w = .ok (.float .f64 a) w := by kernel_rfl
@[go_sem] theorem run_index194_1 (a b : Nat) (w : World) : (Instr.index 194 (.agg #[.float .f64 a, .float .f64 b]) (.int .i64 1)).run Tryz.prog w = .ok (.float .f64 b) w := by kernel_rfl
theorem gaMid {a b : Nat} {w : World} (h0 : a < 18446744073709551616) (h1 : b < 18446744073709551616) :
 Calls Tryz.prog 111 #[.complex .f64 a b] w fun e w' => e = .returned (.bool (midB a && midB b)) ∧ w' = w := by
 have A0 := hid (fabs_any a h0); have z0 : (FloatKind.f64.format.order a 0 == some Ordering.eq) = decide (a % 9223372036854775808 = 0) := feq_zero a h0; have g0 : (FloatKind.f64.format.order (a % 9223372036854775808) 4427038433705197568 == some Ordering.gt || FloatKind.f64.format.order (a % 9223372036854775808) 4427038433705197568 == some Ordering.eq) = decide (4427038433705197568 ≤ a % 9223372036854775808 ∧ a % 9223372036854775808 ≤ 9218868437227405312) := fge_abs _ _ (Nat.mod_lt _ (by decide)) (by decide)
 have l0 : (FloatKind.f64.format.order (a % 9223372036854775808) 4787326403894837248 == some Ordering.lt || FloatKind.f64.format.order (a % 9223372036854775808) 4787326403894837248 == some Ordering.eq) = decide (a % 9223372036854775808 ≤ 4787326403894837248) := fle_abs _ _ (Nat.mod_lt _ (by decide)) (by decide)
 obtain ⟨M0, hM0⟩ : ∃ M, M = midB a := ⟨_, rfl⟩; rw [← hM0]; unfold midB at hM0; generalize decide (a % 9223372036854775808 = 0) = Z0 at *; generalize decide (4427038433705197568 ≤ a % 9223372036854775808 ∧ a % 9223372036854775808 ≤ 9218868437227405312) = G0 at *; generalize decide (a % 9223372036854775808 ≤ 4787326403894837248) = L0 at *; generalize a % 9223372036854775808 = y0 at *; have HM0 := hid hM0; clear hM0; have A1 := hid (fabs_any b h1); have z1 : (FloatKind.f64.format.order b 0 == some Ordering.eq) = decide (b % 9223372036854775808 = 0) := feq_zero b h1; have g1 : (FloatKind.f64.format.order (b % 9223372036854775808) 4427038433705197568 == some Ordering.gt || FloatKind.f64.format.order (b % 9223372036854775808) 4427038433705197568 == some Ordering.eq) = decide (4427038433705197568 ≤ b % 9223372036854775808 ∧ b % 9223372036854775808 ≤ 9218868437227405312) := fge_abs _ _ (Nat.mod_lt _ (by decide)) (by decide)
 have l1 : (FloatKind.f64.format.order (b % 9223372036854775808) 4787326403894837248 == some Ordering.lt || FloatKind.f64.format.order (b % 9223372036854775808) 4787326403894837248 == some Ordering.eq) = decide (b % 9223372036854775808 ≤ 4787326403894837248) := fle_abs _ _ (Nat.mod_lt _ (by decide)) (by decide)
 obtain ⟨M1, hM1⟩ : ∃ M, M = midB b := ⟨_, rfl⟩; rw [← hM1]; unfold midB at hM1; generalize decide (b % 9223372036854775808 = 0) = Z1 at *; generalize decide (4427038433705197568 ≤ b % 9223372036854775808 ∧ b % 9223372036854775808 ≤ 9218868437227405312) = G1 at *; generalize decide (b % 9223372036854775808 ≤ 4787326403894837248) = L1 at *; generalize b % 9223372036854775808 = y1 at *; have HM1 := hid hM1; clear hM1; go_enter Tryz.func111, Tryz.ntmps111; go_wp2_with fail
 go_loop [11] (fun s11 => ∃ j : Nat, s11 = .int .i64 j ∧ j ≤ 2 ∧ Hid (1 ≤ j → M0 = true) ∧ Hid (2 ≤ j → M1 = true)) (fun s11 => 2 - (intOf s11).toNat)
 case atStart => exact ⟨0, rfl, by omega, hid (fun h => absurd h (by decide)), hid (fun h => absurd h (by decide))⟩
 case round =>
  obtain ⟨j, rfl, hj, H0, H1⟩ := hrel; by_cases j0 : j = 0
  · subst j0; cases Z0 <;> cases G0 <;> cases L0
    all_goals
     have hk := HM0.out; simp only [Bool.true_or, Bool.false_or, Bool.and_true, Bool.and_false, Bool.false_and, Bool.true_and] at hk; have HK := hid hk; clear hk; go_wp2_with (go_at_call 127; (with_reducible refine (A0.out _).mono ?_); rintro e w' ⟨rfl, hw⟩; obtain rfl := hw.symm)
    all_goals
     first
      | (go_round
         case rel => exact ⟨1, by go_num, by omega, hid (fun _ => HK.out), hid (fun h => absurd h (by decide))⟩
         case measure => simp [intOf])
      | (go_ret
         exact ⟨by rw [HK.out, Bool.false_and]; rfl, rfl⟩)
      | (exfalso
         clear A0 A1
         simp_all
         done)
  by_cases j1 : j = 1
  · subst j1; cases Z1 <;> cases G1 <;> cases L1
    all_goals
     have hk := HM1.out; simp only [Bool.true_or, Bool.false_or, Bool.and_true, Bool.and_false, Bool.false_and, Bool.true_and] at hk; have HK := hid hk; clear hk; go_wp2_with (go_at_call 127; (with_reducible refine (A1.out _).mono ?_); rintro e w' ⟨rfl, hw⟩; obtain rfl := hw.symm)
    all_goals
     first
      | (go_round
         case rel => exact ⟨2, by go_num, by omega, hid (fun _ => H0.out (by decide)), hid (fun _ => HK.out)⟩
         case measure => simp [intOf])
      | (go_ret
         exact ⟨by rw [HK.out, Bool.and_false]; rfl, rfl⟩)
      | (exfalso
         clear A0 A1
         simp_all
         done)
  obtain rfl : j = 2 := by omega
  have K0 := hid (H0.out (by decide))
  have K1 := hid (H1.out (by decide))
  clear H0 H1 hj j0 j1; go_wp2_with fail
  go_ret
  exact ⟨by rw [K0.out, K1.out]; rfl, rfl⟩
def noughtC (c : Nat × Nat) : Bool := decide (c.1 % 9223372036854775808 = 0) && decide (c.2 % 9223372036854775808 = 0)
def midC (c : Nat × Nat) : Bool := midB c.1 && midB c.2
def geB (x y : Nat) : Bool := FloatKind.f64.format.order x y == some Ordering.gt || FloatKind.f64.format.order x y == some Ordering.eq
def someB (l : List (Nat × Nat)) : Bool := l.any fun c => !noughtC c
def allM (l : List (Nat × Nat)) : Bool := l.all midC
def endE (lo hi : Nat × Nat) : Int := if midC lo = false ∨ midC hi = false then 5 else if geB lo.1 hi.1 = true ∨ geB lo.2 hi.2 = true then 110 else 0
def askE (l : List (Nat × Nat)) (lo hi : Nat × Nat) : Int := if l.length < 1 ∨ 17 < l.length then 4 else if allM l = false then 5 else if someB l = false then 80 else endE lo hi
theorem allM_bad {l : List (Nat × Nat)} {j : Nat} {c : Nat × Nat} (h : l[j]? = some c) (hb : midC c = false) : allM l = false := by
 unfold allM; rw [List.all_eq_false]; exact ⟨c, List.mem_of_getElem? h, by rw [hb]; decide⟩
theorem allM_good {l : List (Nat × Nat)} (h : ∀ j c, j < l.length → l[j]? = some c → midC c = true) : allM l = true := by
 unfold allM; rw [List.all_eq_true]; intro c hc; obtain ⟨j, hj⟩ := List.getElem?_of_mem hc; obtain ⟨hl, -⟩ := List.getElem?_eq_some_iff.1 hj; exact h j c hl hj
theorem allM_at {l : List (Nat × Nat)} {j : Nat} {c : Nat × Nat} (h : l[j]? = some c) (ha : allM l = true) : midC c = true := by
 unfold allM at ha; rw [List.all_eq_true] at ha; exact ha c (List.mem_of_getElem? h)
theorem someB_next {l : List (Nat × Nat)} {j : Nat} {c : Nat × Nat} (h : l[j]? = some c) : someB (l.take (j + 1)) = (someB (l.take j) || !noughtC c) := by
 obtain ⟨hj, rfl⟩ := List.getElem?_eq_some_iff.1 h; unfold someB; rw [List.take_succ_eq_append_getElem hj, List.any_append]
 simp
theorem gaAskMany {w : World} {a : Option Addr} {n cap : Nat} {v0 v1 : Value} (hn : n < 1 ∨ 17 < n) :
 Calls Tryz.prog 63 #[.slice a n cap, .agg #[v0, v1]] w fun e w' => e = .returned (.int .i64 4) ∧ Kp0 w w' := by
 rcases hn with hn | hn
 · have h1 : (n : Int) < 1 := by omega
   clear hn; go_enter Tryz.func63, Tryz.ntmps63; go_wp2_with fail
   go_ret
   exact ⟨rfl, ⟨Gr.out⟩⟩
 · have h1 : ¬ (n : Int) < 1 := by omega
   have h2 : (17 : Int) < (n : Int) := by omega
   clear hn; go_enter Tryz.func63, Tryz.ntmps63; go_wp2_with fail
   go_ret
   exact ⟨rfl, ⟨Gr.out⟩⟩
theorem gaAskOk {w : World} {g off cap : Nat} {l : List (Nat × Nat)} {a b c d : Nat} [hc : ClC w g off l] (hl : okB l) (ha : a < 18446744073709551616) (hb : b < 18446744073709551616) (hc' : c < 18446744073709551616) (hd : d < 18446744073709551616) (hn : ¬ (l.length < 1 ∨ 17 < l.length)) :
 Calls Tryz.prog 63 #[.slice (some ⟨g, off, none⟩) l.length cap, .agg #[.complex .f64 a b, .complex .f64 c d]] w fun e w' => e = .returned (.int .i64 (askE l (a, b) (c, d))) ∧ Kp0 w w' := by
 have FM := hid (fun (j : Nat) (x : Nat × Nat) (h : l[j]? = some x) (v : World) => show Calls Tryz.prog 111 #[.complex .f64 x.1 x.2] v fun e w' => e = .returned (.bool (midC x)) ∧ w' = v from gaMid (w := v) (hl x (List.mem_of_getElem? h)).1 (hl x (List.mem_of_getElem? h)).2)
 have FZ := hid (fun (j : Nat) (x : Nat × Nat) (h : l[j]? = some x) => And.intro (feq_zero x.1 (hl x (List.mem_of_getElem? h)).1) (feq_zero x.2 (hl x (List.mem_of_getElem? h)).2))
 have F0 := hid (fun v : World => show Calls Tryz.prog 111 #[.complex .f64 a b] v fun e w' => e = .returned (.bool (midC (a, b))) ∧ w' = v from gaMid (w := v) ha hb)
 have F1 := hid (fun v : World => show Calls Tryz.prog 111 #[.complex .f64 c d] v fun e w' => e = .returned (.bool (midC (c, d))) ∧ w' = v from gaMid (w := v) hc' hd)
 have HV : askE l (a, b) (c, d) = if allM l = false then 5 else if someB l = false then 80 else endE (a, b) (c, d) := by unfold askE; rw [if_neg hn]
 obtain ⟨V, hV⟩ : ∃ V, V = askE l (a, b) (c, d) := ⟨_, rfl⟩; rw [← hV] at HV ⊢; have HVH := hid HV; have HG := hid hc.out; haveI := has_cl hc; obtain ⟨n, hn2⟩ : ∃ n, n = l.length := ⟨_, rfl⟩; rw [← hn2] at hn ⊢; have HL := hid hn2; have h1 : ¬ (n : Int) < 1 := by omega
 have h2 : ¬ (17 : Int) < (n : Int) := by omega
 have g0 : (FloatKind.f64.format.order a c == some Ordering.gt || FloatKind.f64.format.order a c == some Ordering.eq) = geB a c := rfl; have g1 : (FloatKind.f64.format.order b d == some Ordering.gt || FloatKind.f64.format.order b d == some Ordering.eq) = geB b d := rfl; have HE : endE (a, b) (c, d) = if midC (a, b) = false ∨ midC (c, d) = false then 5 else if geB a c = true ∨ geB b d = true then 110 else 0 := rfl
 have HEH := hid HE; generalize endE (a, b) (c, d) = VE at *; generalize geB a c = G0 at *; generalize geB b d = G1 at *; generalize midC (a, b) = M0 at *; generalize midC (c, d) = M1 at *; clear hn hn2 hc hl hV HV HE ha hb hc' hd; go_enter Tryz.func63, Tryz.ntmps63; go_wp2_with fail
 go_loop [5, 18] (fun s5 s18 => ∃ j : Nat, s18 = .int .i64 j ∧ s5 = .bool (someB (l.take j)) ∧ j ≤ n ∧ Hid (∀ i x, i < j → l[i]? = some x → midC x = true)) (fun _ s18 => n - (intOf s18).toNat)
 case atStart => exact ⟨0, rfl, rfl, by omega, hid (fun i c h => absurd h (Nat.not_lt_zero _))⟩
 case round =>
  obtain ⟨j, rfl, rfl, hj, H⟩ := hrel; by_cases hjn : j = n
  · subst hjn; have HA : allM l = true := allM_good (fun i x hi => H.out i x (by rw [HL.out]; exact hi))
    have HS : someB (l.take j) = someB l := by rw [HL.out, List.take_length]
    rw [HS]; have HVV : Hid (V = if someB l = false then 80 else VE) := hid (by rw [HVH.out, HA]; rfl)
    clear hj HA HS; generalize someB l = S at *; cases S
    · go_wp2_with fail
      go_ret
      exact ⟨by rw [HVV.out]; rfl, ⟨Gr.out⟩⟩
    · cases M0
      · go_wp2_with (first | (go_at_call 111; (with_reducible refine (F0.out _).mono ?_); rintro e w' ⟨rfl, hw⟩; obtain rfl := hw.symm) | (go_at_call 111; (with_reducible refine (F1.out _).mono ?_); rintro e w' ⟨rfl, hw⟩; obtain rfl := hw.symm))
        go_ret
        exact ⟨by rw [HVV.out, HEH.out]; rfl, ⟨Gr.out⟩⟩
      · cases M1
        · go_wp2_with (first | (go_at_call 111; (with_reducible refine (F0.out _).mono ?_); rintro e w' ⟨rfl, hw⟩; obtain rfl := hw.symm) | (go_at_call 111; (with_reducible refine (F1.out _).mono ?_); rintro e w' ⟨rfl, hw⟩; obtain rfl := hw.symm))
          go_ret
          exact ⟨by rw [HVV.out, HEH.out]; rfl, ⟨Gr.out⟩⟩
        · cases G0 <;> cases G1
          all_goals go_wp2_with (first | (go_at_call 111; (with_reducible refine (F0.out _).mono ?_); rintro e w' ⟨rfl, hw⟩; obtain rfl := hw.symm) | (go_at_call 111; (with_reducible refine (F1.out _).mono ?_); rintro e w' ⟨rfl, hw⟩; obtain rfl := hw.symm))
          all_goals first
           | (go_ret
              exact ⟨by rw [HVV.out, HEH.out]; rfl, ⟨Gr.out⟩⟩)
           | (exfalso
              clear F0 F1 FM FZ HG
              simp_all
              done)
  · have hlt : j < n := by omega
    have hI : (j : Int) < (n : Int) := by omega
    have h0 : (0 : Int) ≤ (j : Int) := by omega
    obtain ⟨x, hxj⟩ : ∃ x, l[j]? = some x := ⟨_, List.getElem?_eq_getElem (by rw [← HL.out]; exact hlt)⟩
    have cj := HG.out.cell hxj; have FJ := hid (FM.out j x hxj); obtain ⟨z0, z1⟩ := FZ.out j x hxj; have HJ := hid hxj; have HN : Hid (someB (l.take (j + 1)) = (someB (l.take j) || !(decide (x.1 % 9223372036854775808 = 0) && decide (x.2 % 9223372036854775808 = 0)))) := hid (someB_next hxj); clear hxj hjn hj; generalize decide (x.1 % 9223372036854775808 = 0) = Z0 at *; generalize decide (x.2 % 9223372036854775808 = 0) = Z1 at *; generalize someB (l.take j) = S at *; cases hb : midC x with
    | false =>
      rw [hb] at FJ; have HB := hid (allM_bad HJ.out hb); clear hb; go_wp2_with (go_at_call 111; (with_reducible refine (FJ.out _).mono ?_); rintro e w' ⟨rfl, hw⟩; obtain rfl := hw.symm)
      go_ret
      exact ⟨by rw [HVH.out, HB.out]; rfl, ⟨Gr.out⟩⟩
    | true =>
      rw [hb] at FJ; have HB := hid hb; clear hb
      have HREL := hid (show ∀ i y, i < j + 1 → l[i]? = some y → midC y = true from fun i c' hi hc' => by
       by_cases hij : i = j
       · subst hij; rw [HJ.out] at hc'; obtain rfl := Option.some.inj hc'; exact HB.out
       · exact H.out i c' (by omega) hc')
      have HLT := hid hlt; cases S <;> cases Z0 <;> cases Z1
      all_goals go_wp2_with (go_at_call 111; (with_reducible refine (FJ.out _).mono ?_); rintro e w' ⟨rfl, hw⟩; obtain rfl := hw.symm)
      all_goals first
       | (go_round
          case rel => exact ⟨j + 1, by go_num, by first | (rw [HN.out]; rfl) | (rw [HN.out]; exact congrArg (fun b => Value.bool (!b)) z1), HLT.out, HREL⟩
          case measure => first | (simp [intOf]; done) | (simp [intOf]; omega))
       | (exfalso
          clear F0 F1 FM FZ HG FJ H HJ HB HREL HN HVH; simp only [beq_eq_false_iff_ne, beq_iff_eq, ne_eq] at z0 z1
          first
           | contradiction
           | (rename_i hq
              first
               | exact z0 hq
               | exact z1 hq
               | exact hq z0
               | exact hq z1
               | (rcases hq with hq | hq <;> first | exact z0 hq | exact z1 hq | exact hq z0 | exact hq z1)
               | exact hq (Or.inl z0)
               | exact hq (Or.inr z1)
               | (simp only [bne_eq_false_iff_eq] at hq; first | exact z0 hq | exact z1 hq)
               | (simp only [bne_iff_ne, ne_eq] at hq; first | exact hq z0 | exact hq z1)))
theorem gaAsk {w : World} {g off cap : Nat} {l : List (Nat × Nat)} {a b c d : Nat} [hc : ClC w g off l] (hl : okB l) (ha : a < 18446744073709551616) (hb : b < 18446744073709551616) (hc' : c < 18446744073709551616) (hd : d < 18446744073709551616) :
 Calls Tryz.prog 63 #[.slice (some ⟨g, off, none⟩) l.length cap, .agg #[.complex .f64 a b, .complex .f64 c d]] w fun e w' => e = .returned (.int .i64 (askE l (a, b) (c, d))) ∧ Kp0 w w' := by
 by_cases hn : l.length < 1 ∨ 17 < l.length
 · have := gaAskMany (w := w) (a := some ⟨g, off, none⟩) (cap := cap) (v0 := .complex .f64 a b) (v1 := .complex .f64 c d) hn
   rwa [show askE l (a, b) (c, d) = 4 by unfold askE; rw [if_pos hn]]
 · exact gaAskOk hl ha hb hc' hd hn
instance notW155 : NotW 155 := ⟨by decide⟩
def wholeI (D : Int) (r : _root_.Rat) : Int := r.num * D.tdiv (r.den : Int)
def SzR (L : Nat) (l : List _root_.Rat) : Prop := ∀ x ∈ l, SmC x L
theorem SzR.at {L : Nat} {l : List _root_.Rat} (h : SzR L l) {j : Nat} {x : _root_.Rat} (hx : l[j]? = some x) : (words x.num.natAbs).length ≤ L ∧ (words x.den).length ≤ L := ⟨(h x (List.mem_of_getElem? hx)).out.1, (h x (List.mem_of_getElem? hx)).out.2⟩
theorem gaScaled {w : World} {v : Value} {l : List _root_.Rat} {c k L : Nat} {D : Int} [hc : BkC w c [.pointer (some ⟨k, 0, none⟩)] 160] [hk : InC w k D] (h : Rw 80 (ER 88) w v l) (hn : l.length ≤ 4096) (hs : SzR L l) (hL : L ≤ 1000000000) (hD : (words D.natAbs).length ≤ 100000000000) :
 Calls Tryz.prog 163 #[v, .pointer (some ⟨c, 0, none⟩)] w fun e w' => ∃ v', e = .returned v' ∧ Rw 160 EI w' v' (cutI (l.map (wholeI D))) ∧ Kp0 w w' := by
 obtain ⟨a, cap, rfl, hcap⟩ := h.form; obtain ⟨n, hn2⟩ : ∃ n, n = l.length := ⟨_, rfl⟩; have HL := hid hn2; rw [← hn2] at hn hcap; have es : (.slice a l.length cap : Value) = .slice a n cap := by rw [hn2]
 rw [es] at h ⊢; have HH := hid h; obtain ⟨M, hM⟩ : ∃ M, M = l.map (wholeI D) := ⟨_, rfl⟩; rw [← hM]; have HM := hid hM; have HML := hid (show M.length = n by rw [hM, List.length_map, ← hn2])
 have SE := hid (fun (j : Nat) (x : _root_.Rat) (hx : l[j]? = some x) => hs.at hx)
 have HN := hid hn; have HLB := hid hL; have HD2 := hid hD; have HD := hid (Nat.le_trans hD (by decide : 100000000000 ≤ 137438953472))
 have HCC := hid (Bk.cell hc.out (i := 0) rfl); have HCK := HCC.out; clear h hn2 es hs hL hM hD; go_enter Tryz.func163, Tryz.ntmps163; go_wp2_with (at_make; refine make_z (E := EI) M _ rfl _ _ rfl _ n rfl rfl (by first | rfl | omega | simp) (by omega) ?_; intro w1 hF hK1)
 go_loopw [12] (fun s12 wx => ∃ i : Nat, s12 = .int .i64 i ∧ i ≤ n ∧ Fl 160 EI wx w.heap.size n M i ∧ Kp0 w wx) (fun s12 _ => n - (intOf s12).toNat)
 case atStart => exact ⟨0, rfl, by omega, hF, hK1⟩
 case round =>
  obtain ⟨i, rfl, hi, fl, ik⟩ := hrel; by_cases hij : i = n
  · subst hij; have R := hid (fl.done (by rw [HML.out]; exact Nat.le_refl _) HML.out.symm)
    have HN2 := hid (show M.length ≤ 4096 by rw [HML.out]; exact HN.out)
    clear hi fl; go_wp2_with (go_at_call 164; (with_reducible refine Calls.mono (gaCut R.out HN2.out) ?_); rintro e w' ⟨v2, rfl, hv2, _, hw⟩; obtain rfl := hw.symm; have HV2 := hid hv2; clear hv2)
    go_ret
    exact ⟨_, rfl, HV2.out, ⟨Gr.out⟩⟩
  · have hlt : i < n := by omega
    have hI : (i : Int) < (n : Int) := by omega
    have h0 : (0 : Int) ≤ (i : Int) := by omega
    have hx : l[i]? = some l[i] := List.getElem?_eq_getElem (by rw [← HL.out]; omega)
    generalize l[i] = x at hx; obtain ⟨g, off, u, rfl, hg, cj, p2, rfl, hIx⟩ := HH.out.at hx; haveI : Has w g := ⟨hg⟩; haveI : RaC 88 w p2 x := ⟨hIx⟩; obtain ⟨⟨u2, cu⟩, fu⟩ := fl.slot hlt; haveI hgb := (⟨fl.lt⟩ : Has wr w.heap.size); have FL := hid fl; have MX := hid (show M[i]? = some (x.num * D.tdiv (x.den : Int)) by rw [HM.out, List.getElem?_map, hx]; rfl)
    have k0 := SE.out i x hx; have kn : Hid ((words x.num.natAbs).length ≤ 1099511627776) := hid (by have := HLB.out; omega)
    have kd : Hid ((words x.den).length ≤ 1099511627776) := hid (by have := HLB.out; omega)
    have kd2 : Hid ((words ((x.den : Nat) : Int).natAbs).length ≤ 137438953472) := hid (by rw [Int.natAbs_natCast]; have := HLB.out; omega)
    have kd0 : Hid (((x.den : Nat) : Int) ≠ 0) := hid (by have := x.den_pos; omega)
    have km : Hid ((words x.num.natAbs).length + (words (D.tdiv (x.den : Int)).natAbs).length ≤ 137438953472) := hid (by
     have := HLB.out; have q : (words (D.tdiv (x.den : Int)).natAbs).length ≤ 100000000000 := tdiv_len HD2.out
     omega)
    have HI := hid hlt; clear hx hIx hij hi fl hlt k0; go_upto_region 5 with fail
    go_region_held3 (fun W => W.cell? ⟨c, 0, none⟩ = some (.pointer (some ⟨k, 0, none⟩))) (first | exact Bk.cell BkC.out rfl | (simp [go_sem]; done) | (simp [go_sem, cu]; done) | (simp [go_sem, HCC.out]; done)) (first | (go_at_call 135; (with_reducible refine Calls.mono (bNumC kn.out) ?_); rintro e wc ⟨kn1, rfl, _, _, _⟩) | (go_at_call 137; (with_reducible refine Calls.mono (bDenC kd.out) ?_); rintro e wc ⟨kd1, rfl, _, _, _⟩) | (go_at_call 162; (with_reducible refine Calls.mono (biQuoC HD.out kd2.out kd0.out) ?_); rintro e wc ⟨rfl, _, _⟩) | (go_at_call 115; (with_reducible refine Calls.mono (biMulC km.out) ?_); rintro e wc ⟨rfl, hq, _⟩; have HQ := hid hq.out))
    all_goals (go_wp2_with fail)
    all_goals go_round
    all_goals first
     | (refine ⟨i + 1, by go_num, HI.out, ?_, ⟨Gr.out⟩⟩
        exact (FL.out.below eok_EI Gr.out).put eok_EI HI.out MX.out ⟨_, rfl, HQ.out⟩)
     | (simp [intOf]; done)
     | (simp [intOf]; omega)
@[go_sem] theorem run_index195_0 (a a' : Option Addr) (n c n' c' : Nat) (w : World) : (Instr.index 195 (.agg #[.slice a n c, .slice a' n' c']) (.int .i64 0)).run Tryz.prog w = .ok (.slice a n c) w := by kernel_rfl
@[go_sem] theorem run_index195_1 (a a' : Option Addr) (n c n' c' : Nat) (w : World) : (Instr.index 195 (.agg #[.slice a n c, .slice a' n' c']) (.int .i64 1)).run Tryz.prog w = .ok (.slice a' n' c') w := by kernel_rfl
def lcmD (d : Nat) (r : _root_.Rat) : Nat := d * (r.den / Nat.gcd d r.den)
def lcmL (d : Nat) (l : List _root_.Rat) : Nat := l.foldl lcmD d
theorem lcmL_take {d : Nat} {l : List _root_.Rat} {j : Nat} {x : _root_.Rat} (h : l[j]? = some x) : lcmL d (l.take (j + 1)) = lcmD (lcmL d (l.take j)) x := by
 unfold lcmL; rw [List.take_add_one, h, List.foldl_append]; rfl
theorem lcmD_int (d : Nat) (r : _root_.Rat) : ((d : Nat) : Int) * Int.tdiv ((r.den : Nat) : Int) ((Nat.gcd d r.den : Nat) : Int) = ((lcmD d r : Nat) : Int) := by
 unfold lcmD; rw [← Int.ofNat_tdiv, Int.natCast_mul]
theorem lcmD_len {d : Nat} {r : _root_.Rat} {k L : Nat} (hd : (words d).length ≤ k) (hr : (words r.den).length ≤ L) : (words (lcmD d r)).length ≤ k + L := by
 have h1 : (words (r.den / Nat.gcd d r.den)).length ≤ L := Nat.le_trans (len_mono (Nat.div_le_self _ _)) hr; rw [← words_lt_iff] at hd h1 ⊢; unfold lcmD; rw [Nat.pow_add]; exact Nat.mul_lt_mul'' hd h1
theorem lcmL_len {d k L : Nat} {l : List _root_.Rat} (hd : (words d).length ≤ k) (h : SzR L l) (j : Nat) : (words (lcmL d (l.take j))).length ≤ k + L * j := by
 induction j with
 | zero => exact hd
 | succ j ih =>
   cases hx : l[j]? with
   | none =>
     rw [List.take_add_one, hx, Option.toList_none, List.append_nil]; rw [Nat.mul_succ]; omega
   | some x =>
     rw [lcmL_take hx, Nat.mul_succ]; exact Nat.le_trans (lcmD_len ih (h.at hx).2) (by omega)
def wholeD (l m : List _root_.Rat) : Nat := lcmL (lcmL 1 l) m
def wholeX (l m : List _root_.Rat) : List Int := cutI (l.map (wholeI (wholeD l m)))
def wholeY (l m : List _root_.Rat) : List Int := cutI (m.map (wholeI (wholeD l m)))
theorem gaWhole2 {w : World} {v v' : Value} {l m : List _root_.Rat} {L : Nat} [hv : VrB w] (h : Rw 80 (ER 88) w v l) (h' : Rw 80 (ER 88) w v' m) (hn : l.length ≤ 64) (hn' : m.length ≤ 64) (hs : SzR L l) (hs' : SzR L m) (hL : L ≤ 100000000) :
 Calls Tryz.prog 112 #[v, v'] w fun e w' => ∃ u u', e = .returned (.tuple #[u, u']) ∧ Rw 160 EI w' u (wholeX l m) ∧ Rw 160 EI w' u' (wholeY l m) ∧ Kp0 w w' := by
 obtain ⟨a, cap, rfl, hcap⟩ := h.form; obtain ⟨a', cap', rfl, hcap'⟩ := h'.form; obtain ⟨n0, hn0⟩ : ∃ n, n = l.length := ⟨_, rfl⟩; obtain ⟨n1, hn1⟩ : ∃ n, n = m.length := ⟨_, rfl⟩; have HL0 := hid hn0; have HL1 := hid hn1; rw [← hn0] at hn hcap; rw [← hn1] at hn' hcap'; have es : (.slice a l.length cap : Value) = .slice a n0 cap := by rw [hn0]
 have es' : (.slice a' m.length cap' : Value) = .slice a' n1 cap' := by rw [hn1]
 rw [es] at h ⊢; rw [es'] at h' ⊢; have HH0 := hid h; have HH1 := hid h'; have HN0 := hid hn; have HN1 := hid hn'; have SE0 := hid (fun (j : Nat) (x : _root_.Rat) (hx : l[j]? = some x) => hs.at hx)
 have SE1 := hid (fun (j : Nat) (x : _root_.Rat) (hx : m[j]? = some x) => hs'.at hx)
 have HS0 := hid hs; have HS1 := hid hs'; have HLB := hid hL; have w1 : (words 1).length ≤ 1 := small_len (by decide)
 have BL0 := hid (fun j (hj : j ≤ n0) => show (words (lcmL 1 (l.take j))).length ≤ 10000000000 from by
  have q := lcmL_len w1 hs j; have q2 : L * j ≤ 100000000 * 64 := Nat.mul_le_mul hL (by omega)
  omega)
 have BL1 := hid (fun j (hj : j ≤ n1) => show (words (lcmL (lcmL 1 l) (m.take j))).length ≤ 20000000000 from by
  have p := BL0.out n0 (Nat.le_refl _); rw [HL0.out, List.take_length] at p; have q := lcmL_len p hs' j; have q2 : L * j ≤ 100000000 * 64 := Nat.mul_le_mul hL (by omega)
  omega)
 clear h h' hn0 hn1 es es' hs hs' hL w1; go_enter Tryz.func112, Tryz.ntmps112; go_wp2_with ((go_at_call 116; (with_reducible refine Calls.mono (bNewC (by decide) (by decide)) ?_); rintro e wc ⟨kk, rfl, _, _, _⟩))
 generalize hgD : wc.heap.size = gD at *; have HGD := hid hgD; haveI : LtN kk gD := hgD ▸ (inferInstance : LtN kk wc.heap.size); haveI : Up w.heap.size gD := ⟨by rw [← hgD]; exact (Gr.out (v := w) (W := wc)).size⟩
 clear hgD; go_loopw [17] (fun s17 wx => ∃ (k : Int) (d : Nat), s17 = .int .i64 k ∧ ((k = 0 ∧ d = 1) ∨ (k = 1 ∧ d = lcmL 1 l) ∨ (k = 2 ∧ d = wholeD l m)) ∧ InC wx kk ((d : Nat) : Int) ∧ BkC wx gD [.pointer (some ⟨kk, 0, none⟩)] 160 ∧ Kp0 w wx) (fun s17 _ => 2 - (intOf s17).toNat)
 case atStart =>
  refine ⟨0, 1, rfl, .inl ⟨rfl, rfl⟩, ?_, ?_, ⟨Gr.out⟩⟩
  · show InC _ _ 1
    infer_instance
  · rw [← HGD.out]; infer_instance
 case round =>
  obtain ⟨k, d, rfl, ⟨rfl, rfl⟩ | ⟨rfl, rfl⟩ | ⟨rfl, rfl⟩, ik, ib, ig⟩ := hrel
  · go_wp2_with fail
    go_loopw [22] (fun s22 wx => ∃ j : Nat, s22 = .int .i64 j ∧ j ≤ n0 ∧ InC wx kk ((lcmL 1 (l.take j) : Nat) : Int) ∧ BkC wx gD [.pointer (some ⟨kk, 0, none⟩)] 160 ∧ Kp0 w wx) (fun s22 _ => n0 - (intOf s22).toNat)
    case atStart =>
     refine ⟨0, rfl, by omega, ?_, ib, ig⟩
     show InC _ _ ((1 : Nat) : Int)
     infer_instance
    case round =>
     obtain ⟨j, rfl, hj, is, ib2, ig2⟩ := hrel; by_cases hjn : j = n0
     · subst hjn; have HT := hid (show l.take j = l by rw [HL0.out, List.take_length])
       rw [HT.out] at is; clear hj; go_wp2_with fail
       go_round
       case rel =>
        refine ⟨1, lcmL 1 l, by go_num, .inr (.inl ⟨rfl, rfl⟩), is, ib2, ig2⟩
       case measure => simp [intOf]
     · have hlt : j < n0 := by omega
       have hI : (j : Int) < (n0 : Int) := by omega
       have h0 : (0 : Int) ≤ (j : Int) := by omega
       have hx : l[j]? = some l[j] := List.getElem?_eq_getElem (by rw [← HL0.out]; omega)
       generalize l[j] = x at hx; obtain ⟨g, off, u, rfl, hg, cj, p2, rfl, hIx⟩ := HH0.out.at hx; haveI : Has w g := ⟨hg⟩; haveI : RaC 88 w p2 x := ⟨hIx⟩; have HX := hid (lcmL_take (d := 1) hx); have k0 := SE0.out j x hx; have kb := BL0.out j hj; have kd : Hid ((words x.den).length ≤ 1099511627776) := hid (by have := HLB.out; omega)
       have kd2 : Hid ((words ((x.den : Nat) : Int).natAbs).length ≤ 137438953472) := hid (by rw [Int.natAbs_natCast]; have := HLB.out; omega)
       generalize lcmL 1 (l.take j) = dj at *; have ka : Hid ((words ((dj : Nat) : Int).natAbs).length ≤ 137438953472) := hid (by rw [Int.natAbs_natCast]; omega)
       have kg0 : Hid (((Nat.gcd ((dj : Nat) : Int).natAbs ((x.den : Nat) : Int).natAbs : Nat) : Int) ≠ 0) := hid (by
        rw [Int.natAbs_natCast, Int.natAbs_natCast]; have := Nat.gcd_pos_of_pos_right dj x.den_pos
        omega)
       have kg : Hid ((words ((Nat.gcd ((dj : Nat) : Int).natAbs ((x.den : Nat) : Int).natAbs : Nat) : Int).natAbs).length ≤ 137438953472) := hid (by
        rw [Int.natAbs_natCast, Int.natAbs_natCast, Int.natAbs_natCast]; have q := Nat.le_trans (len_mono (Nat.le_of_dvd x.den_pos (Nat.gcd_dvd_right dj x.den))) k0.2; have := HLB.out
        omega)
       have km : Hid ((words ((dj : Nat) : Int).natAbs).length + (words (Int.tdiv ((x.den : Nat) : Int) ((Nat.gcd ((dj : Nat) : Int).natAbs ((x.den : Nat) : Int).natAbs : Nat) : Int)).natAbs).length ≤ 137438953472) := hid (by
        have q : (words (Int.tdiv ((x.den : Nat) : Int) ((Nat.gcd ((dj : Nat) : Int).natAbs ((x.den : Nat) : Int).natAbs : Nat) : Int)).natAbs).length ≤ 100000000 := tdiv_len (by rw [Int.natAbs_natCast]; have := HLB.out; omega)
        rw [Int.natAbs_natCast] at *
        omega)
       have HI := hid hlt; have BD := hid (Bk.cell ib2.out (i := 0) rfl)
       have HV : Hid (((dj : Nat) : Int) * Int.tdiv ((x.den : Nat) : Int) ((Nat.gcd ((dj : Nat) : Int).natAbs ((x.den : Nat) : Int).natAbs : Nat) : Int) = ((lcmD dj x : Nat) : Int)) := hid (by
        rw [Int.natAbs_natCast, Int.natAbs_natCast]; exact lcmD_int dj x)
       clear hx hIx hj hjn hlt k0 kb; go_upto_region 8 with fail
       go_region_held3 (fun W => W.cell? ⟨gD, 0, none⟩ = some (.pointer (some ⟨kk, 0, none⟩))) (first | exact Bk.cell BkC.out rfl | (simp [go_sem]; done) | (simp [go_sem, BD.out]; done)) (first | (go_at_call 137; (with_reducible refine Calls.mono (bDenC kd.out) ?_); rintro e wc ⟨kd1, rfl, _, _, _⟩) | (go_at_call 161; (with_reducible refine Calls.mono (biGcdC ka.out kd2.out) ?_); rintro e wc ⟨rfl, _, _⟩))
       all_goals
        go_upto_region 9 with fail
        go_region_held3 (fun W => W.cell? ⟨gD, 0, none⟩ = some (.pointer (some ⟨kk, 0, none⟩))) (first | exact Bk.cell BkC.out rfl | (simp [go_sem]; done) | (simp [go_sem, BD.out]; done)) (first | (go_at_call 137; (with_reducible refine Calls.mono (bDenC kd.out) ?_); rintro e wc ⟨kd3, rfl, _, _, _⟩) | (go_at_call 162; (with_reducible refine Calls.mono (biQuoC kd2.out kg.out kg0.out) ?_); rintro e wc ⟨rfl, _, _⟩) | (go_at_call 115; (with_reducible refine Calls.mono (biMulC km.out) ?_); rintro e wc ⟨rfl, _, _⟩))
       all_goals (go_wp2_with fail)
       all_goals go_round
       all_goals first
        | (refine ⟨j + 1, by go_num, HI.out, ?_, inferInstance, ⟨Gr.out⟩⟩
           rw [HX.out, ← HV.out]; infer_instance)
        | (simp [intOf]; done)
        | (simp [intOf]; omega)
  · go_wp2_with fail
    go_loopw [22] (fun s22 wx => ∃ j : Nat, s22 = .int .i64 j ∧ j ≤ n1 ∧ InC wx kk ((lcmL (lcmL 1 l) (m.take j) : Nat) : Int) ∧ BkC wx gD [.pointer (some ⟨kk, 0, none⟩)] 160 ∧ Kp0 w wx) (fun s22 _ => n1 - (intOf s22).toNat)
    case atStart =>
     refine ⟨0, rfl, by omega, ?_, ib, ig⟩
     show InC _ _ (((lcmL 1 l) : Nat) : Int)
     infer_instance
    case round =>
     obtain ⟨j, rfl, hj, is, ib2, ig2⟩ := hrel; by_cases hjn : j = n1
     · subst hjn; have HT := hid (show m.take j = m by rw [HL1.out, List.take_length])
       rw [HT.out] at is; clear hj; go_wp2_with fail
       go_round
       case rel =>
        refine ⟨2, lcmL (lcmL 1 l) m, by go_num, .inr (.inr ⟨rfl, rfl⟩), is, ib2, ig2⟩
       case measure => simp [intOf]
     · have hlt : j < n1 := by omega
       have hI : (j : Int) < (n1 : Int) := by omega
       have h0 : (0 : Int) ≤ (j : Int) := by omega
       have hx : m[j]? = some m[j] := List.getElem?_eq_getElem (by rw [← HL1.out]; omega)
       generalize m[j] = x at hx; obtain ⟨g, off, u, rfl, hg, cj, p2, rfl, hIx⟩ := HH1.out.at hx; haveI : Has w g := ⟨hg⟩; haveI : RaC 88 w p2 x := ⟨hIx⟩; have HX := hid (lcmL_take (d := (lcmL 1 l)) hx); have k0 := SE1.out j x hx; have kb := BL1.out j hj; have kd : Hid ((words x.den).length ≤ 1099511627776) := hid (by have := HLB.out; omega)
       have kd2 : Hid ((words ((x.den : Nat) : Int).natAbs).length ≤ 137438953472) := hid (by rw [Int.natAbs_natCast]; have := HLB.out; omega)
       generalize lcmL (lcmL 1 l) (m.take j) = dj at *; have ka : Hid ((words ((dj : Nat) : Int).natAbs).length ≤ 137438953472) := hid (by rw [Int.natAbs_natCast]; omega)
       have kg0 : Hid (((Nat.gcd ((dj : Nat) : Int).natAbs ((x.den : Nat) : Int).natAbs : Nat) : Int) ≠ 0) := hid (by
        rw [Int.natAbs_natCast, Int.natAbs_natCast]; have := Nat.gcd_pos_of_pos_right dj x.den_pos
        omega)
       have kg : Hid ((words ((Nat.gcd ((dj : Nat) : Int).natAbs ((x.den : Nat) : Int).natAbs : Nat) : Int).natAbs).length ≤ 137438953472) := hid (by
        rw [Int.natAbs_natCast, Int.natAbs_natCast, Int.natAbs_natCast]; have q := Nat.le_trans (len_mono (Nat.le_of_dvd x.den_pos (Nat.gcd_dvd_right dj x.den))) k0.2; have := HLB.out
        omega)
       have km : Hid ((words ((dj : Nat) : Int).natAbs).length + (words (Int.tdiv ((x.den : Nat) : Int) ((Nat.gcd ((dj : Nat) : Int).natAbs ((x.den : Nat) : Int).natAbs : Nat) : Int)).natAbs).length ≤ 137438953472) := hid (by
        have q : (words (Int.tdiv ((x.den : Nat) : Int) ((Nat.gcd ((dj : Nat) : Int).natAbs ((x.den : Nat) : Int).natAbs : Nat) : Int)).natAbs).length ≤ 100000000 := tdiv_len (by rw [Int.natAbs_natCast]; have := HLB.out; omega)
        rw [Int.natAbs_natCast] at *
        omega)
       have HI := hid hlt; have BD := hid (Bk.cell ib2.out (i := 0) rfl)
       have HV : Hid (((dj : Nat) : Int) * Int.tdiv ((x.den : Nat) : Int) ((Nat.gcd ((dj : Nat) : Int).natAbs ((x.den : Nat) : Int).natAbs : Nat) : Int) = ((lcmD dj x : Nat) : Int)) := hid (by
        rw [Int.natAbs_natCast, Int.natAbs_natCast]; exact lcmD_int dj x)
       clear hx hIx hj hjn hlt k0 kb; go_upto_region 8 with fail
       go_region_held3 (fun W => W.cell? ⟨gD, 0, none⟩ = some (.pointer (some ⟨kk, 0, none⟩))) (first | exact Bk.cell BkC.out rfl | (simp [go_sem]; done) | (simp [go_sem, BD.out]; done)) (first | (go_at_call 137; (with_reducible refine Calls.mono (bDenC kd.out) ?_); rintro e wc ⟨kd1, rfl, _, _, _⟩) | (go_at_call 161; (with_reducible refine Calls.mono (biGcdC ka.out kd2.out) ?_); rintro e wc ⟨rfl, _, _⟩))
       all_goals
        go_upto_region 9 with fail
        go_region_held3 (fun W => W.cell? ⟨gD, 0, none⟩ = some (.pointer (some ⟨kk, 0, none⟩))) (first | exact Bk.cell BkC.out rfl | (simp [go_sem]; done) | (simp [go_sem, BD.out]; done)) (first | (go_at_call 137; (with_reducible refine Calls.mono (bDenC kd.out) ?_); rintro e wc ⟨kd3, rfl, _, _, _⟩) | (go_at_call 162; (with_reducible refine Calls.mono (biQuoC kd2.out kg.out kg0.out) ?_); rintro e wc ⟨rfl, _, _⟩) | (go_at_call 115; (with_reducible refine Calls.mono (biMulC km.out) ?_); rintro e wc ⟨rfl, _, _⟩))
       all_goals (go_wp2_with fail)
       all_goals go_round
       all_goals first
        | (refine ⟨j + 1, by go_num, HI.out, ?_, inferInstance, ⟨Gr.out⟩⟩
           rw [HX.out, ← HV.out]; infer_instance)
        | (simp [intOf]; done)
        | (simp [intOf]; omega)
  · skip
    have HD := hid (show (words ((wholeD l m : Nat) : Int).natAbs).length ≤ 100000000000 by
     rw [Int.natAbs_natCast]; have p := BL1.out n1 (Nat.le_refl _); rw [HL1.out, List.take_length] at p; unfold wholeD
     omega)
    have HLL := hid (show l.length ≤ 4096 by rw [← HL0.out]; have := HN0.out; omega)
    have HLM := hid (show m.length ≤ 4096 by rw [← HL1.out]; have := HN1.out; omega)
    have HLB9 := hid (show L ≤ 1000000000 by have := HLB.out; omega)
    go_wp2_with (first | (go_at_call 163; (with_reducible refine Calls.mono (gaScaled (HH0.out.below (eok_ER (by decide) (by decide)) Gr.out) HLL.out HS0.out HLB9.out HD.out) ?_); rintro e wa ⟨ua, rfl, hua, _⟩; have HUA := hid hua; clear hua) | (go_at_call 163; (with_reducible refine Calls.mono (gaScaled (HH1.out.below (eok_ER (by decide) (by decide)) Gr.out) HLM.out HS1.out HLB9.out HD.out) ?_); rintro e wb ⟨ub, rfl, hub, _⟩; have HUB := hid hub; clear hub))
    go_ret2
    exact ⟨_, _, rfl, HUA.out.below eok_EI Gr.out, HUB.out, ⟨Gr.out⟩⟩
end Go.Proofs.YthjeejnggpjnjaaGreatDoor
