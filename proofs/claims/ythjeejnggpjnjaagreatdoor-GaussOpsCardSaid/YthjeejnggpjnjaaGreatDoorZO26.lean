/- A part: CV, DA, CW. -/
import Derived.Test.YthjeejnggpjnjaaGreatDoorZO25
set_option linter.unusedSimpArgs false
set_option linter.unusedVariables false
set_option maxRecDepth 100000
set_option maxHeartbeats 16000000
set_option synthInstance.maxHeartbeats 2000000
set_option synthInstance.maxSize 100000
namespace Go.Proofs.YthjeejnggpjnjaaGreatDoor
open Go.RowKit
theorem mid_fexp {b : Nat} (h : midB b = true) : fexp b ≠ 2047 := by
 unfold midB at h; rw [Bool.or_eq_true, Bool.and_eq_true, decide_eq_true_eq, decide_eq_true_eq, decide_eq_true_eq] at h; unfold fexp; rcases h with h | ⟨⟨h1, -⟩, h2⟩
 · omega
 · omega
theorem mid_dy {b : Nat} (h : midB b = true) : Dy 92 133 (frat b) := by
 unfold midB at h; rw [Bool.or_eq_true, Bool.and_eq_true, decide_eq_true_eq, decide_eq_true_eq, decide_eq_true_eq] at h; rcases h with h | ⟨⟨h1, -⟩, h2⟩
 · have e1 : fexp b = 0 := by unfold fexp; omega
   have e2 : fnum b = 0 := by unfold fnum; rw [if_pos e1]; unfold fman; omega
   have e : frat b = 0 := by
    unfold frat; rw [e2, Nat.zero_mul, show sg (fneg b) 0 = 0 by cases fneg b <;> rfl, Rat.zero_mkRat]
   rw [e]; have := (Dy.zero.up 92).mono (M' := 133) (by decide)
   rwa [Nat.zero_add] at this
 · have e1 : 983 ≤ fexp b := by unfold fexp; omega
   have e2 : fexp b ≤ 1063 := by unfold fexp; omega
   have e3 : fpow b = fexp b := by unfold fpow; rw [if_neg (by omega)]
   have e4 := fnum_lt b; unfold frat; rw [e3, show fexp b - 1075 = 0 by omega]
   generalize fexp b = p at *; generalize fnum b = f at *; refine ⟨sg (fneg b) (f * 2 ^ (p - 983)), ?_, ?_⟩
   · rw [← Rat.mkRat_mul_right (two_ne (p - 983)) (n := sg (fneg b) (f * 2 ^ 0)), ← Nat.pow_add, sg_scale, Nat.pow_zero, Nat.mul_one, show 1075 - p + (p - 983) = 92 by omega]
   · rw [sg_abs, show (133 : Nat) = 53 + 80 from rfl, Nat.pow_add]
     exact Nat.mul_le_mul (by omega) (Nat.pow_le_pow_right (by decide) (by omega))
theorem dy_den {E M : Nat} {x : _root_.Rat} (h : Dy E M x) : x.den ∣ 2 ^ E := by
 obtain ⟨n, rfl, -⟩ := h; rw [Rat.den_mkRat, if_neg (two_ne E)]; exact Nat.div_dvd_of_dvd (Nat.gcd_dvd_left _ _)
theorem dy_num {E M : Nat} {x : _root_.Rat} (h : Dy E M x) : x.num.natAbs ≤ 2 ^ M := by
 obtain ⟨n, rfl, hn⟩ := h; exact Nat.le_trans (mkRat_small n (2 ^ E) (two_ne E)).1 hn
theorem lcmD_dvd {d K : Nat} {r : _root_.Rat} (hd : d ∣ K) (hr : r.den ∣ K) : lcmD d r ∣ K := by
 unfold lcmD; rw [← Nat.mul_div_assoc _ (Nat.gcd_dvd_right _ _)]; exact Nat.lcm_dvd hd hr
theorem lcmL_dvd {K : Nat} {l : List _root_.Rat} : ∀ {d : Nat}, d ∣ K → (∀ x ∈ l, x.den ∣ K) → lcmL d l ∣ K := by
 induction l with
 | nil => intro d hd _; exact hd
 | cons x t ih =>
   intro d hd h; exact ih (d := lcmD d x) (lcmD_dvd hd (h x List.mem_cons_self)) (fun y hy => h y (List.mem_cons_of_mem _ hy))
theorem wholeD_dvd {K : Nat} {l m : List _root_.Rat} (h : ∀ x ∈ l, x.den ∣ K) (h' : ∀ x ∈ m, x.den ∣ K) : wholeD l m ∣ K := lcmL_dvd (lcmL_dvd (Nat.one_dvd K) h) h'
theorem wholeI_le {E M D : Nat} {x : _root_.Rat} (h : Dy E M x) (hD : D ∣ 2 ^ E) : (words (wholeI D x).natAbs).length ≤ (M + E) / 32 + 1 := by
 refine pow2_words ?_
 unfold wholeI; rw [Int.natAbs_mul, Nat.pow_add, ← Int.ofNat_tdiv, Int.natAbs_natCast]; exact Nat.mul_le_mul (dy_num h) (Nat.le_trans (Nat.div_le_self _ _) (Nat.le_of_dvd (Nat.pos_of_ne_zero (two_ne E)) hD))
theorem whole_sz {E M : Nat} {l m : List _root_.Rat} (h : ∀ x ∈ l, Dy E M x) (h' : ∀ x ∈ m, Dy E M x) : SzI ((M + E) / 32 + 1) (wholeX l m) ∧ SzI ((M + E) / 32 + 1) (wholeY l m) := by
 have hD := wholeD_dvd (K := 2 ^ E) (fun x hx => dy_den (h x hx)) (fun x hx => dy_den (h' x hx))
 constructor
 · refine SzI.cut (fun y hy => ?_)
   obtain ⟨x, hx, rfl⟩ := List.mem_map.1 hy; exact wholeI_le (h x hx) hD
 · refine SzI.cut (fun y hy => ?_)
   obtain ⟨x, hx, rfl⟩ := List.mem_map.1 hy; exact wholeI_le (h' x hx) hD
theorem along_start {F S : _root_.Rat × _root_.Rat} (hF : DyN 92 140 F) (hS : DyN 92 140 S) {l : List (Nat × Nat)} (hn : l.length ≤ 17) (hl : ∀ c ∈ l, DyN 92 140 (frat c.1, frat c.2)) :
 StartC 130 (wholeX ((alongN F S l).map Prod.fst) ((alongN F S l).map Prod.snd)) (wholeY ((alongN F S l).map Prod.fst) ((alongN F S l).map Prod.snd)) := by
 have hD := alongN_dy hF hS hl; have hl1 : ((alongN F S l).map Prod.fst).length ≤ 17 := by rw [List.length_map, alongN_len]; exact hn
 have hl2 : ((alongN F S l).map Prod.snd).length ≤ 17 := by rw [List.length_map, alongN_len]; exact hn
 obtain ⟨s1, s2⟩ := whole_sz (l := (alongN F S l).map Prod.fst) (m := (alongN F S l).map Prod.snd) (fun x hx => by obtain ⟨y, hy, rfl⟩ := List.mem_map.1 hx; exact (hD y hy).1) (fun x hx => by obtain ⟨y, hy, rfl⟩ := List.mem_map.1 hx; exact (hD y hy).2)
 have hk : (150 * l.length + 92 * l.length) / 32 + 1 ≤ 130 := by omega
 refine ⟨Nat.le_trans (cutI_len _) ?_, Nat.le_trans (cutI_len _) ?_, s1.mono hk, s2.mono hk⟩
 · rw [List.length_map]; exact hl1
 · rw [List.length_map]; exact hl2
theorem StartC.symm {A : Nat} {p q : List Int} (h : StartC A p q) : StartC A q p := ⟨h.2.1, h.1, h.2.2.2, h.2.2.1⟩
theorem chainI_okz {A : Nat} (hA : 1 ≤ A) : ∀ (k : Nat) (p q : List Int), RowI A p q → ∀ P ∈ chainI k p q, OkZ A P := by
 have hp : ∀ p q : List Int, RowI A p q → OkZ A p := by
  intro p q h; rcases h with ⟨h1, h2, h3, h4⟩ | ⟨h1, h2, h3, h4⟩
  · exact ⟨h1, h3.mono (Nat.le_mul_of_pos_right _ (Nat.pow_pos (by decide)))⟩
  · exact ⟨h1, h3⟩
 intro k
 induction k with
 | zero =>
   intro p q h P hP; obtain rfl : P = p := by simpa [chainI] using hP
   exact hp P q h
 | succ k ih =>
   intro p q h P hP; rw [chainI] at hP; by_cases hq : q = []
   · rw [if_pos hq] at hP; obtain rfl : P = p := by simpa using hP
     exact hp P q h
   · rw [if_neg hq] at hP; rcases List.mem_cons.1 hP with rfl | hP
     · exact hp P q h
     · exact ih q _ (h.step hA hq) P hP
def lastL (l : List (List Int)) : List Int := l.getD (l.length - 1) []
theorem lastL_mem {l : List (List Int)} (h : l ≠ []) : lastL l ∈ l ∧ l[l.length - 1]? = some (lastL l) := by
 have hp := List.length_pos_iff.2 h; have e := getL_some (l := l) (i := l.length - 1) (by omega)
 exact ⟨List.mem_of_getElem? e, e⟩
def cornerF (lo hi : Nat × Nat) : Nat → _root_.Rat × _root_.Rat
 | 0 => (frat lo.1, frat lo.2)
 | 1 => (frat hi.1, frat lo.2)
 | 2 => (frat hi.1, frat hi.2)
 | _ => (frat lo.1, frat hi.2)
def wayF (lo hi : Nat × Nat) (i : Nat) : _root_.Rat × _root_.Rat := ((cornerF lo hi ((i + 1) % 4)).1 - (cornerF lo hi i).1, (cornerF lo hi ((i + 1) % 4)).2 - (cornerF lo hi i).2)
def lineF (l : List (Nat × Nat)) (lo hi : Nat × Nat) (i : Nat) : List (_root_.Rat × _root_.Rat) := alongN (cornerF lo hi i) (wayF lo hi i) l
def sideX (l : List (Nat × Nat)) (lo hi : Nat × Nat) (i : Nat) : List Int := wholeX ((lineF l lo hi i).map Prod.fst) ((lineF l lo hi i).map Prod.snd)
def sideY (l : List (Nat × Nat)) (lo hi : Nat × Nat) (i : Nat) : List Int := wholeY ((lineF l lo hi i).map Prod.fst) ((lineF l lo hi i).map Prod.snd)
def sideR (u v : List Int) : List (List Int) := if v = [] then rowI u v else rowI v u
def sideT (u v : List Int) : Int := if v = [] then 0 else turnI (rowI v u)
def sideZ (u v : List Int) : Bool := zeroI (lastL (sideR u v))
def sumT (l : List (Nat × Nat)) (lo hi : Nat × Nat) : Nat → Int
 | 0 => 0
 | j + 1 => sumT l lo hi j + sideT (sideX l lo hi j) (sideY l lo hi j)
def touchT (l : List (Nat × Nat)) (lo hi : Nat × Nat) (j : Nat) : Bool := (List.range j).any fun i => sideZ (sideX l lo hi i) (sideY l lo hi i)
def zerosN (l : List (Nat × Nat)) (lo hi : Nat × Nat) : Int × Int := if askE l lo hi ≠ 0 then (0, askE l lo hi) else if touchT l lo hi 4 = true then (0, 32) else ((sumT l lo hi 4).tdiv 4, 0)
theorem touchT_next (l : List (Nat × Nat)) (lo hi : Nat × Nat) (j : Nat) : touchT l lo hi (j + 1) = (touchT l lo hi j || sideZ (sideX l lo hi j) (sideY l lo hi j)) := by
 unfold touchT; rw [List.range_succ, List.any_append]
 simp
theorem touchT_mono {l : List (Nat × Nat)} {lo hi : Nat × Nat} {j k : Nat} (h : touchT l lo hi j = true) (hk : j ≤ k) : touchT l lo hi k = true := by
 unfold touchT at *; rw [List.any_eq_true] at *; obtain ⟨i, hi, h⟩ := h; exact ⟨i, List.mem_range.2 (Nat.lt_of_lt_of_le (List.mem_range.1 hi) hk), h⟩
theorem corner_dy {lo hi : Nat × Nat} (hl : midC lo = true) (hh : midC hi = true) (i : Nat) : DyN 92 133 (cornerF lo hi i) := by
 unfold midC at hl hh; rw [Bool.and_eq_true] at hl hh; have a := mid_dy hl.1; have b := mid_dy hl.2; have c := mid_dy hh.1; have d := mid_dy hh.2; rcases i with _ | _ | _ | i
 · exact ⟨a, b⟩
 · exact ⟨c, b⟩
 · exact ⟨c, d⟩
 · exact ⟨a, d⟩
theorem way_dy {lo hi : Nat × Nat} (hl : midC lo = true) (hh : midC hi = true) (i : Nat) : DyN 92 140 (wayF lo hi i) := by
 have a := corner_dy hl hh i; have b := corner_dy hl hh ((i + 1) % 4); exact DyN.mono (M := 134) ⟨b.1.sub a.1, b.2.sub a.2⟩ (by decide)
theorem allM_dy {l : List (Nat × Nat)} (h : allM l = true) : ∀ c ∈ l, DyN 92 140 (frat c.1, frat c.2) := by
 intro c hc; obtain ⟨j, hj⟩ := List.getElem?_of_mem hc; have := allM_at hj h; unfold midC at this; rw [Bool.and_eq_true] at this; exact DyN.mono (M := 133) ⟨mid_dy this.1, mid_dy this.2⟩ (by decide)
theorem allM_fexp {l : List (Nat × Nat)} (h : allM l = true) : ∀ c ∈ l, fexp c.1 ≠ 2047 ∧ fexp c.2 ≠ 2047 := by
 intro c hc; obtain ⟨j, hj⟩ := List.getElem?_of_mem hc; have := allM_at hj h; unfold midC at this; rw [Bool.and_eq_true] at this; exact ⟨mid_fexp this.1, mid_fexp this.2⟩
theorem askE_ok {l : List (Nat × Nat)} {lo hi : Nat × Nat} (h : askE l lo hi = 0) : (1 ≤ l.length ∧ l.length ≤ 17) ∧ allM l = true ∧ midC lo = true ∧ midC hi = true := by
 unfold askE at h
 split at h
 · exact absurd h (by decide)
 · split at h
   · exact absurd h (by decide)
   · split at h
     · exact absurd h (by decide)
     · unfold endE at h
       split at h
       · exact absurd h (by decide)
       · rename_i h1 h2 h3 h4; refine ⟨by omega, by simpa using h2, ?_, ?_⟩
         · cases hh : midC lo
           · exact absurd (Or.inl hh) h4
           · rfl
         · cases hh : midC hi
           · exact absurd (Or.inr hh) h4
           · rfl
theorem side_start {l : List (Nat × Nat)} {lo hi : Nat × Nat} (h : askE l lo hi = 0) (i : Nat) : StartC 130 (sideX l lo hi i) (sideY l lo hi i) := by
 obtain ⟨h1, h2, h3, h4⟩ := askE_ok h; exact along_start ((corner_dy h3 h4 i).mono (by decide)) (way_dy h3 h4 i) h1.2 (allM_dy h2)
theorem sideR_row {u v : List Int} (h : StartC 130 u v) : OkR (sideR u v) ∧ OkZ 130 (lastL (sideR u v)) := by
 have h1 : RowI 130 u v := .inl h; have h2 : RowI 130 v u := .inl h.symm; unfold sideR
 split
 · have ok := rowI_ok (by decide) (by decide) h1
   exact ⟨ok, chainI_okz (by decide) _ _ _ h1 _ (lastL_mem ok.1).1⟩
 · have ok := rowI_ok (by decide) (by decide) h2
   exact ⟨ok, chainI_okz (by decide) _ _ _ h2 _ (lastL_mem ok.1).1⟩
theorem sideT_bound (u v : List Int) : -40 ≤ sideT u v ∧ sideT u v ≤ 40 ∨ 18 < u.length := by
 unfold sideT
 split
 · exact .inl (by decide)
 · have h1 := turnN_bound (rowI v u) ((rowI v u).length - 1); have h2 := (chainI_len (u.length + 1) v u).1; unfold turnI; unfold rowI at *; omega
theorem sumT_bound {l : List (Nat × Nat)} {lo hi : Nat × Nat} (h : askE l lo hi = 0) (j : Nat) : -(40 * (j : Int)) ≤ sumT l lo hi j ∧ sumT l lo hi j ≤ 40 * (j : Int) := by
 induction j with
 | zero =>
   rw [sumT]; omega
 | succ j ih =>
   have h1 := (side_start h j).1; have h2 := (sideT_bound (sideX l lo hi j) (sideY l lo hi j)).resolve_right (by omega)
   rw [sumT]; omega
instance notW41 : NotW 41 := ⟨by decide⟩
instance notW45 : NotW 45 := ⟨by decide⟩
instance notW25 : NotW 25 := ⟨by decide⟩
instance notW99 : NotW 99 := ⟨by decide⟩
instance neT_88_41 : NeT 88 41 := ⟨by decide⟩
instance neT_88_45 : NeT 88 45 := ⟨by decide⟩
instance neT_88_25 : NeT 88 25 := ⟨by decide⟩
instance neT_88_99 : NeT 88 99 := ⟨by decide⟩
theorem lwRatio {w : World} {s t : ByteArray} :
 Calls Tryz.prog 52 #[.string s, .string t] w fun e w' => e = .returned (.agg #[.string s, .string t]) ∧ Kp0 w w' := by
 go_enter Tryz.func52, Tryz.ntmps52; go_wp2_with fail
 refine ret_cell rfl rfl rfl (by rfl) (by rfl) (by rfl) ?_
 exact ⟨rfl, ⟨Gr.out⟩⟩
@[go_sem] theorem wrap_lit0 : IntKind.i64.wrap 0 = 0 := by decide
@[go_sem] theorem tmod_lit0 : Int.tmod 0 4 = 0 := by decide
@[go_sem] theorem wrap_lit1 : IntKind.i64.wrap 1 = 1 := by decide
@[go_sem] theorem tmod_lit1 : Int.tmod 1 4 = 1 := by decide
@[go_sem] theorem wrap_lit2 : IntKind.i64.wrap 2 = 2 := by decide
@[go_sem] theorem tmod_lit2 : Int.tmod 2 4 = 2 := by decide
@[go_sem] theorem wrap_lit3 : IntKind.i64.wrap 3 = 3 := by decide
@[go_sem] theorem tmod_lit3 : Int.tmod 3 4 = 3 := by decide
@[go_sem] theorem wrap_lit4 : IntKind.i64.wrap 4 = 4 := by decide
@[go_sem] theorem tmod_lit4 : Int.tmod 4 4 = 0 := by decide
@[go_sem] theorem run_index99_0 (a0 b0 a1 b1 a2 b2 a3 b3 : Nat) (w : World) : (Instr.index 99 (.agg #[.pointer (some ⟨a0, 0, none⟩), .pointer (some ⟨b0, 0, none⟩), .pointer (some ⟨a1, 0, none⟩), .pointer (some ⟨b1, 0, none⟩), .pointer (some ⟨a2, 0, none⟩), .pointer (some ⟨b2, 0, none⟩), .pointer (some ⟨a3, 0, none⟩), .pointer (some ⟨b3, 0, none⟩)]) (.int .i64 0)).run Tryz.prog w = .ok (nuV a0 b0) w := by kernel_rfl
@[go_sem] theorem run_index99_1 (a0 b0 a1 b1 a2 b2 a3 b3 : Nat) (w : World) : (Instr.index 99 (.agg #[.pointer (some ⟨a0, 0, none⟩), .pointer (some ⟨b0, 0, none⟩), .pointer (some ⟨a1, 0, none⟩), .pointer (some ⟨b1, 0, none⟩), .pointer (some ⟨a2, 0, none⟩), .pointer (some ⟨b2, 0, none⟩), .pointer (some ⟨a3, 0, none⟩), .pointer (some ⟨b3, 0, none⟩)]) (.int .i64 1)).run Tryz.prog w = .ok (nuV a1 b1) w := by kernel_rfl
@[go_sem] theorem run_index99_2 (a0 b0 a1 b1 a2 b2 a3 b3 : Nat) (w : World) : (Instr.index 99 (.agg #[.pointer (some ⟨a0, 0, none⟩), .pointer (some ⟨b0, 0, none⟩), .pointer (some ⟨a1, 0, none⟩), .pointer (some ⟨b1, 0, none⟩), .pointer (some ⟨a2, 0, none⟩), .pointer (some ⟨b2, 0, none⟩), .pointer (some ⟨a3, 0, none⟩), .pointer (some ⟨b3, 0, none⟩)]) (.int .i64 2)).run Tryz.prog w = .ok (nuV a2 b2) w := by kernel_rfl
@[go_sem] theorem run_index99_3 (a0 b0 a1 b1 a2 b2 a3 b3 : Nat) (w : World) : (Instr.index 99 (.agg #[.pointer (some ⟨a0, 0, none⟩), .pointer (some ⟨b0, 0, none⟩), .pointer (some ⟨a1, 0, none⟩), .pointer (some ⟨b1, 0, none⟩), .pointer (some ⟨a2, 0, none⟩), .pointer (some ⟨b2, 0, none⟩), .pointer (some ⟨a3, 0, none⟩), .pointer (some ⟨b3, 0, none⟩)]) (.int .i64 3)).run Tryz.prog w = .ok (nuV a3 b3) w := by kernel_rfl
theorem tdiv4_bound {S : Int} (h : -160 ≤ S ∧ S ≤ 160) : -160 ≤ S.tdiv 4 ∧ S.tdiv 4 ≤ 160 := by
 have e : (S.tdiv 4).natAbs = S.natAbs / 4 := Int.natAbs_tdiv S 4; generalize S.tdiv 4 = T at *; omega
theorem gaRowS {w : World} {v1 v2 : Value} {p q : List Int} {A : Nat} [hv : VrB w] (hp : Rw 160 EI w v1 p) (hq : Rw 160 EI w v2 q) (hA1 : 1 ≤ A) (hA : A ≤ 300) (hI : RowI A p q) :
 Calls Tryz.prog 66 #[v1, v2] w fun e w' => ∃ gR oR nR cR uR, e = .returned (.slice (some ⟨gR, oR, none⟩) (nR + 1) cR) ∧ gR < w'.heap.size ∧ w'.cell? ⟨gR, oR + nR, none⟩ = some uR ∧ (nR : Int) ≤ 63 ∧ Rw 160 EI w' uR (lastL (rowI p q)) ∧ Rw 101 (Rw 160 EI) w' (.slice (some ⟨gR, oR, none⟩) (nR + 1) cR) (rowI p q) ∧ Kp0 w w' := by
 refine (gaRow hp hq hA1 hA hI).mono ?_
 rintro e w' ⟨v', rfl, h, k⟩; have ok := rowI_ok hA1 hA hI; obtain ⟨aR, cR, rfl, -⟩ := h.form; obtain ⟨gR, oR, uR, rfl, hg, hc, hP⟩ := h.at (lastL_mem ok.1).2; have hlen := List.length_pos_iff.2 ok.1; obtain ⟨nR, hnR⟩ : ∃ nR, (rowI p q).length = nR + 1 := ⟨(rowI p q).length - 1, by omega⟩
 have h64 := ok.2.1; rw [hnR] at hc h; refine ⟨gR, oR, nR, cR, uR, by rw [hnR], hg, by rw [Nat.add_sub_cancel] at hc; exact hc, by omega, hP, h, k⟩
theorem gaZerosErr {w : World} {g off cap : Nat} {l : List (Nat × Nat)} {a b c d : Nat} [hc : ClC w g off l] (hl : okB l) (ha : a < 18446744073709551616) (hb : b < 18446744073709551616) (hc' : c < 18446744073709551616) (hd : d < 18446744073709551616) (h : askE l (a, b) (c, d) ≠ 0) :
 Calls Tryz.prog 18 #[.slice (some ⟨g, off, none⟩) l.length cap, .agg #[.complex .f64 a b, .complex .f64 c d]] w fun e w' => e = .returned (.tuple #[.int .i64 0, .int .i64 (askE l (a, b) (c, d))]) ∧ Kp0 w w' := by
 have AS := hid (fun (W : World) (q : ClC W g off l) => gaAsk (w := W) (cap := cap) (hc := q) hl ha hb hc' hd)
 generalize askE l (a, b) (c, d) = V at *; have hV : (V == 0) = false := beq_eq_false_iff_ne.2 h; obtain ⟨n, hn2⟩ : ∃ n, n = l.length := ⟨_, rfl⟩; rw [← hn2] at AS ⊢; clear hn2 hl ha hb hc' hd; go_enter Tryz.func18, Tryz.ntmps18; go_wp2_with (go_at_call 63; (with_reducible refine Calls.mono (AS.out _ inferInstance) ?_); rintro e wa ⟨rfl, _⟩)
 all_goals first
  | (go_ret2
     exact ⟨rfl, ⟨Gr.out⟩⟩)
  | (exfalso; simp_all; done)
theorem gaZerosOk {w : World} {g off cap : Nat} {l : List (Nat × Nat)} {a b c d : Nat} [hc : ClC w g off l] [hv : VrB w] (hl : okB l) (ha : a < 18446744073709551616) (hb : b < 18446744073709551616) (hc' : c < 18446744073709551616) (hd : d < 18446744073709551616) (h : askE l (a, b) (c, d) = 0) :
 Calls Tryz.prog 18 #[.slice (some ⟨g, off, none⟩) l.length cap, .agg #[.complex .f64 a b, .complex .f64 c d]] w fun e w' => e = .returned (.tuple #[.int .i64 (if touchT l (a, b) (c, d) 4 = true then 0 else (sumT l (a, b) (c, d) 4).tdiv 4), .int .i64 (if touchT l (a, b) (c, d) 4 = true then 32 else 0)]) ∧ Kp0 w w' := by
 have AS := hid (fun (W : World) (q : ClC W g off l) => h ▸ gaAsk (w := W) (cap := cap) (hc := q) hl ha hb hc' hd)
 obtain ⟨hq1, hq2, hq3, hq4⟩ := askE_ok h; have ea := mid_fexp (Bool.and_eq_true_iff.1 hq3).1; have eb := mid_fexp (Bool.and_eq_true_iff.1 hq3).2; have ec := mid_fexp (Bool.and_eq_true_iff.1 hq4).1; have ed := mid_fexp (Bool.and_eq_true_iff.1 hq4).2; have AL0 := hid (fun (W : World) (f1 f2 s1 s2 : Nat) (q : ClC W g off l) (v : VrB W) (r1 : RaC 88 W f1 (frat a)) (r2 : RaC 88 W f2 (frat b)) (r3 : RaC 88 W s1 (frat c - frat a)) (r4 : RaC 88 W s2 (frat b - frat b)) => show Calls Tryz.prog 64 #[.slice (some ⟨g, off, none⟩) l.length cap, .agg #[.pointer (some ⟨f1, 0, none⟩), .pointer (some ⟨f2, 0, none⟩)], .agg #[.pointer (some ⟨s1, 0, none⟩), .pointer (some ⟨s2, 0, none⟩)]] W (fun e w' => ∃ u u', e = .returned (.tuple #[u, u']) ∧ Rw 160 EI w' u (sideX l (a, b) (c, d) 0) ∧ Rw 160 EI w' u' (sideY l (a, b) (c, d) 0) ∧ Kp0 W w') from gaAlong (hc := q) (hf1 := r1) (hf2 := r2) (hs1 := r3) (hs2 := r4) (hv := v) hl hq1.2 (allM_fexp hq2) ((corner_dy hq3 hq4 0).mono (by decide)) (way_dy hq3 hq4 0) (allM_dy hq2))
 have AL1 := hid (fun (W : World) (f1 f2 s1 s2 : Nat) (q : ClC W g off l) (v : VrB W) (r1 : RaC 88 W f1 (frat c)) (r2 : RaC 88 W f2 (frat b)) (r3 : RaC 88 W s1 (frat c - frat c)) (r4 : RaC 88 W s2 (frat d - frat b)) => show Calls Tryz.prog 64 #[.slice (some ⟨g, off, none⟩) l.length cap, .agg #[.pointer (some ⟨f1, 0, none⟩), .pointer (some ⟨f2, 0, none⟩)], .agg #[.pointer (some ⟨s1, 0, none⟩), .pointer (some ⟨s2, 0, none⟩)]] W (fun e w' => ∃ u u', e = .returned (.tuple #[u, u']) ∧ Rw 160 EI w' u (sideX l (a, b) (c, d) 1) ∧ Rw 160 EI w' u' (sideY l (a, b) (c, d) 1) ∧ Kp0 W w') from gaAlong (hc := q) (hf1 := r1) (hf2 := r2) (hs1 := r3) (hs2 := r4) (hv := v) hl hq1.2 (allM_fexp hq2) ((corner_dy hq3 hq4 1).mono (by decide)) (way_dy hq3 hq4 1) (allM_dy hq2))
 have AL2 := hid (fun (W : World) (f1 f2 s1 s2 : Nat) (q : ClC W g off l) (v : VrB W) (r1 : RaC 88 W f1 (frat c)) (r2 : RaC 88 W f2 (frat d)) (r3 : RaC 88 W s1 (frat a - frat c)) (r4 : RaC 88 W s2 (frat d - frat d)) => show Calls Tryz.prog 64 #[.slice (some ⟨g, off, none⟩) l.length cap, .agg #[.pointer (some ⟨f1, 0, none⟩), .pointer (some ⟨f2, 0, none⟩)], .agg #[.pointer (some ⟨s1, 0, none⟩), .pointer (some ⟨s2, 0, none⟩)]] W (fun e w' => ∃ u u', e = .returned (.tuple #[u, u']) ∧ Rw 160 EI w' u (sideX l (a, b) (c, d) 2) ∧ Rw 160 EI w' u' (sideY l (a, b) (c, d) 2) ∧ Kp0 W w') from gaAlong (hc := q) (hf1 := r1) (hf2 := r2) (hs1 := r3) (hs2 := r4) (hv := v) hl hq1.2 (allM_fexp hq2) ((corner_dy hq3 hq4 2).mono (by decide)) (way_dy hq3 hq4 2) (allM_dy hq2))
 have AL3 := hid (fun (W : World) (f1 f2 s1 s2 : Nat) (q : ClC W g off l) (v : VrB W) (r1 : RaC 88 W f1 (frat a)) (r2 : RaC 88 W f2 (frat d)) (r3 : RaC 88 W s1 (frat a - frat a)) (r4 : RaC 88 W s2 (frat b - frat d)) => show Calls Tryz.prog 64 #[.slice (some ⟨g, off, none⟩) l.length cap, .agg #[.pointer (some ⟨f1, 0, none⟩), .pointer (some ⟨f2, 0, none⟩)], .agg #[.pointer (some ⟨s1, 0, none⟩), .pointer (some ⟨s2, 0, none⟩)]] W (fun e w' => ∃ u u', e = .returned (.tuple #[u, u']) ∧ Rw 160 EI w' u (sideX l (a, b) (c, d) 3) ∧ Rw 160 EI w' u' (sideY l (a, b) (c, d) 3) ∧ Kp0 W w') from gaAlong (hc := q) (hf1 := r1) (hf2 := r2) (hs1 := r3) (hs2 := r4) (hv := v) hl hq1.2 (allM_fexp hq2) ((corner_dy hq3 hq4 3).mono (by decide)) (way_dy hq3 hq4 3) (allM_dy hq2))
 have HASK := hid h; obtain ⟨E1, hE1⟩ : ∃ E, E = (if touchT l (a, b) (c, d) 4 = true then 0 else (sumT l (a, b) (c, d) 4).tdiv 4) := ⟨_, rfl⟩
 obtain ⟨E2, hE2⟩ : ∃ E : Int, E = (if touchT l (a, b) (c, d) 4 = true then 32 else 0) := ⟨_, rfl⟩
 rw [← hE1, ← hE2]; have HE1 := hid hE1; have HE2 := hid hE2; obtain ⟨n, hn2⟩ : ∃ n, n = l.length := ⟨_, rfl⟩; rw [← hn2] at AS AL0 AL1 AL2 AL3 ⊢; haveI := has_cl hc; clear hn2 hl hq1 hq2 hq3 hq4 hE1 hE2 h; go_enter Tryz.func18, Tryz.ntmps18; go_upto_region 4 with (go_at_call 63; (with_reducible refine Calls.mono (AS.out _ inferInstance) ?_); rintro e wa ⟨rfl, _⟩)
 go_cut [7, 8] from 22 (fun s7 s8 wx => ∃ g7 g8 p0 q0 p1 q1, s7 = .pointer (some ⟨g7, 0, none⟩) ∧ s8 = .pointer (some ⟨g8, 0, none⟩) ∧ BkC wx g7 [.pointer (some ⟨p0, 0, none⟩), .pointer (some ⟨q0, 0, none⟩)] 82 ∧ BkC wx g8 [.pointer (some ⟨p1, 0, none⟩), .pointer (some ⟨q1, 0, none⟩)] 82 ∧ RaC 88 wx p0 (frat a) ∧ RaC 88 wx q0 (frat b) ∧ RaC 88 wx p1 (frat c) ∧ RaC 88 wx q1 (frat d) ∧ Kp0 w wx)
 case first =>
  go_region_held3 (fun W => W.cell? ⟨w.heap.size, 0, none⟩ = some (.complex .f64 a b) ∧ W.cell? ⟨w.heap.size, 1, none⟩ = some (.complex .f64 c d)) (refine ⟨?_, ?_⟩ <;> (first | exact Bk.cell BkC.out rfl | (simp [go_sem]; done))) (first | (go_at_call 54; (with_reducible refine Calls.mono (gaExact (hvr := ⟨VrC.out⟩) ha hb ea eb) ?_); rintro e wc ⟨_, _, rfl, _, _, _⟩) | (go_at_call 54; (with_reducible refine Calls.mono (gaExact (hvr := ⟨VrC.out⟩) hc' hd ec ed) ?_); rintro e wc ⟨_, _, rfl, _, _, _⟩))
  all_goals (go_wp2_with fail; go_meet; exact ⟨_, _, _, _, _, _, rfl, rfl, inferInstance, inferInstance, inferInstance, inferInstance, inferInstance, inferInstance, ⟨Gr.out⟩⟩)
 case rest =>
 obtain ⟨g7, g8, p0, q0, p1, q1, rfl, rfl, b7, b8, r1, r2, r3, r4, kw⟩ := hcut; generalize hwq : wc = wq at *; clear hwq AS; have c70 := b7.out.cell (i := 0) rfl; have c71 := b7.out.cell (i := 1) rfl; have c80 := b8.out.cell (i := 0) rfl; have c81 := b8.out.cell (i := 1) rfl; go_wp2_with fail
 go_loopw [10, 42] (fun s10 s42 wx => ∃ (i S : Int), s42 = .int .i64 i ∧ s10 = .int .i64 S ∧ ((i = 0 ∧ Hid (S = sumT l (a, b) (c, d) 0 ∧ touchT l (a, b) (c, d) 0 = false)) ∨ (i = 1 ∧ Hid (S = sumT l (a, b) (c, d) 1 ∧ touchT l (a, b) (c, d) 1 = false)) ∨ (i = 2 ∧ Hid (S = sumT l (a, b) (c, d) 2 ∧ touchT l (a, b) (c, d) 2 = false)) ∨ (i = 3 ∧ Hid (S = sumT l (a, b) (c, d) 3 ∧ touchT l (a, b) (c, d) 3 = false)) ∨ (i = 4 ∧ Hid (S = sumT l (a, b) (c, d) 4 ∧ touchT l (a, b) (c, d) 4 = false))) ∧ BkC wx wq.heap.size [.pointer (some ⟨p0, 0, none⟩), .pointer (some ⟨q0, 0, none⟩), .pointer (some ⟨p1, 0, none⟩), .pointer (some ⟨q0, 0, none⟩), .pointer (some ⟨p1, 0, none⟩), .pointer (some ⟨q1, 0, none⟩), .pointer (some ⟨p0, 0, none⟩), .pointer (some ⟨q1, 0, none⟩)] 99 ∧ Kp0 wq wx) (fun _ s42 _ => 4 - (intOf s42).toNat)
 case atStart => exact ⟨0, 0, rfl, rfl, .inl ⟨rfl, hid ⟨rfl, rfl⟩⟩, inferInstance, ⟨Gr.out⟩⟩
 case round =>
  obtain ⟨i, S, rfl, rfl, ⟨rfl, hSt⟩ | ⟨rfl, hSt⟩ | ⟨rfl, hSt⟩ | ⟨rfl, hSt⟩ | ⟨rfl, hSt⟩, ib, ik⟩ := hrel
  · skip
    have HXY := hid (side_start HASK.out 0); have HRT := hid (sideR_row (side_start HASK.out 0)); have HSN := hid (show sumT l (a, b) (c, d) 1 = sumT l (a, b) (c, d) 0 + sideT (sideX l (a, b) (c, d) 0) (sideY l (a, b) (c, d) 0) from rfl)
    have HTN := hid (touchT_next l (a, b) (c, d) 0); have hSb : -160 ≤ S ∧ S ≤ 160 := by have := sumT_bound HASK.out 0; rw [← hSt.out.1] at this; omega
    have hTb := (sideT_bound (sideX l (a, b) (c, d) 0) (sideY l (a, b) (c, d) 0)).resolve_right (by have := HXY.out.1; omega)
    have ALJ := AL0; go_upto_region 10 with fail
    go_cut [13, 14] from 46 to 58 (fun s13 s14 wx => Rw 160 EI wx s13 (sideX l (a, b) (c, d) 0) ∧ Rw 160 EI wx s14 (sideY l (a, b) (c, d) 0) ∧ Kp0 wr wx)
    case first =>
     go_region_held3 (fun W => W.cell? ⟨wr.heap.size, 0, none⟩ = some (.pointer (some ⟨p0, 0, none⟩)) ∧ W.cell? ⟨wr.heap.size, 1, none⟩ = some (.pointer (some ⟨q0, 0, none⟩)) ∧ W.cell? ⟨wq.heap.size, 2, none⟩ = some (.pointer (some ⟨p1, 0, none⟩)) ∧ W.cell? ⟨wq.heap.size, 3, none⟩ = some (.pointer (some ⟨q0, 0, none⟩))) (refine ⟨?_, ?_, ?_, ?_⟩ <;> (first | exact Bk.cell BkC.out rfl | (simp [go_sem]; done))) (first | (go_at_call 65; (with_reducible refine Calls.mono (gaSubC (by decide) (by decide) (by decide) (by decide)) ?_); rintro e wc ⟨_, _, rfl, _, _, _⟩) | (go_at_call 64; (with_reducible refine Calls.mono (ALJ.out _ _ _ _ _ inferInstance ⟨VrC.out⟩ inferInstance inferInstance inferInstance inferInstance) ?_); rintro e wd ⟨u, u', rfl, hu, hu', _⟩; have HU := hid hu; have HU' := hid hu'; clear hu hu'))
     all_goals (go_wp2_with fail; go_meet; exact ⟨HU.out, HU'.out, ⟨Gr.out⟩⟩)
    case rest =>
     obtain ⟨hU, hU', ik2⟩ := hcut; clear AL0 AL1 AL2 AL3 ALJ; generalize sideX l (a, b) (c, d) 0 = P at *; generalize sideY l (a, b) (c, d) 0 = Q at *; generalize hwd : wc = wd at *; clear hwd; obtain ⟨a1, c1, rfl, -⟩ := hU.form; obtain ⟨a2, c2, rfl, -⟩ := hU'.form; generalize hZZ : sideZ P Q = Z at *; have HRI : Hid (RowI 130 P Q) := hid (.inl HXY.out); have HRJ : Hid (RowI 130 Q P) := hid (.inl HXY.out.symm); by_cases hq : Q = []
     · subst hq; have hT0 : sideT P [] = 0 := by unfold sideT; rw [if_pos rfl]
       have hR0 : sideR P [] = rowI P [] := by unfold sideR; rw [if_pos rfl]
       rw [show (([] : List Int).length) = 0 from rfl] at hU' ⊢
       have HSN2 := hid (show sumT l (a, b) (c, d) 1 = S by rw [HSN.out, hT0, Int.add_zero]; exact hSt.out.1.symm)
       have ZE := hid (fun (W : World) (u : Value) (v : VrC W) (h : Rw 160 EI W u (lastL (rowI P []))) => show Calls Tryz.prog 68 #[u] W (fun e w' => e = .returned (.bool Z) ∧ Kp0 W w') from by
        have := gaZero (hv := v) h (by decide) (by decide) (hR0 ▸ HRT.out.2)
        rwa [show zeroI (lastL (rowI P [])) = Z by rw [← hZZ, ← hR0]; rfl] at this)
       have HU := hid hU; have HU' := hid hU'; obtain ⟨nP, hnP⟩ : ∃ nP, nP = P.length := ⟨_, rfl⟩; rw [← hnP] at HU ⊢; clear hU hU' hTb hZZ hnP hT0 hR0; cases Z
       all_goals go_wp2_with (first | (go_at_call 66; (with_reducible refine Calls.mono (gaRow (hv := ⟨VrC.out⟩) (HU'.out.below eok_EI Gr.out) (HU.out.below eok_EI Gr.out) (by decide) (by decide) HRJ.out) ?_); rintro e wa ⟨va, rfl, hva, _⟩; clear hva) | (go_at_call 66; (with_reducible refine Calls.mono (gaRowS (hv := ⟨VrC.out⟩) (HU.out.below eok_EI Gr.out) (HU'.out.below eok_EI Gr.out) (by decide) (by decide) HRI.out) ?_); rintro e wb ⟨gR, oR, nR, cR, uR, rfl, hgR, ceR, h63, hPR, hvb, _⟩; haveI : Has wb gR := ⟨hgR⟩; have HPR := hid hPR; have hi0 : (0 : Int) ≤ (nR : Int) := Int.natCast_nonneg _; have hi1 : (nR : Int) < (nR : Int) + 1 := Int.lt_succ _; clear hvb hPR hgR) | (go_at_call 68; (with_reducible refine Calls.mono (ZE.out _ _ inferInstance (HPR.out.below eok_EI Gr.out)) ?_); rintro e wc ⟨rfl, _⟩))
       · go_round
         case rel => exact ⟨1, S, by first | rfl | go_num, rfl, .inr (.inl ⟨rfl, hid ⟨HSN2.out.symm, by rw [HTN.out, Bool.or_false]; exact hSt.out.2⟩⟩), inferInstance, ⟨Gr.out⟩⟩
         case measure => simp [intOf]
       · go_ret2
         have hT4 := touchT_mono (k := 4) (show touchT l (a, b) (c, d) 1 = true by rw [HTN.out, Bool.or_true]) (by decide)
         exact ⟨by rw [HE1.out, HE2.out, if_pos hT4, if_pos hT4]; rfl, ⟨Gr.out⟩⟩
     · have hR0 : sideR P Q = rowI Q P := by unfold sideR; rw [if_neg hq]
       have hT0 : sideT P Q = turnI (rowI Q P) := by unfold sideT; rw [if_neg hq]
       obtain ⟨T, hT⟩ : ∃ T, T = turnI (rowI Q P) := ⟨_, rfl⟩; rw [hT0, ← hT] at hTb; have HSN2 := hid (show sumT l (a, b) (c, d) 1 = S + T by rw [HSN.out, hT0, ← hT, ← hSt.out.1])
       have ZE := hid (fun (W : World) (u : Value) (v : VrC W) (h : Rw 160 EI W u (lastL (rowI Q P))) => show Calls Tryz.prog 68 #[u] W (fun e w' => e = .returned (.bool Z) ∧ Kp0 W w') from by
        have := gaZero (hv := v) h (by decide) (by decide) (hR0 ▸ HRT.out.2)
        rwa [show zeroI (lastL (rowI Q P)) = Z by rw [← hZZ, ← hR0]; rfl] at this)
       have TE := hid (fun (W : World) (u : Value) (h : Rw 101 (Rw 160 EI) W u (rowI Q P)) => show Calls Tryz.prog 67 #[u] W (fun e w' => e = .returned (.int .i64 T) ∧ Kp0 W w') from by
        have := gaTurned h (hR0 ▸ HRT.out.1)
        rwa [← hT] at this)
       have hw : IntKind.i64.wrap (S + T) = S + T := IntWalk.i64_in _ (by omega)
       have HU := hid hU; have HU' := hid hU'; obtain ⟨nP, hnP⟩ : ∃ nP, nP = P.length := ⟨_, rfl⟩; obtain ⟨nQ, hnQ⟩ : ∃ nQ, nQ = Q.length := ⟨_, rfl⟩; have hnq : ((nQ : Int) == 0) = false := beq_eq_false_iff_ne.2 (by have := List.length_pos_iff.2 hq; omega)
       rw [← hnP] at HU ⊢; rw [← hnQ] at HU' ⊢; clear hU hU' hTb hZZ hnP hnQ hT0 hR0 hq hT; cases Z
       all_goals go_wp2_with (first | (go_at_call 66; (with_reducible refine Calls.mono (gaRowS (hv := ⟨VrC.out⟩) (HU'.out.below eok_EI Gr.out) (HU.out.below eok_EI Gr.out) (by decide) (by decide) HRJ.out) ?_); rintro e wb ⟨gR, oR, nR, cR, uR, rfl, hgR, ceR, h63, hPR, hvb, _⟩; haveI : Has wb gR := ⟨hgR⟩; have HPR := hid hPR; have HVB := hid hvb; have hi0 : (0 : Int) ≤ (nR : Int) := Int.natCast_nonneg _; have hi1 : (nR : Int) < (nR : Int) + 1 := Int.lt_succ _; clear hvb hPR hgR) | (go_at_call 67; (with_reducible refine Calls.mono (TE.out _ _ (HVB.out.below eok_EZ Gr.out)) ?_); rintro e wa ⟨rfl, _⟩) | (go_at_call 68; (with_reducible refine Calls.mono (ZE.out _ _ inferInstance (HPR.out.below eok_EI Gr.out)) ?_); rintro e wc ⟨rfl, _⟩))
       · go_round
         case rel => exact ⟨1, S + T, by first | rfl | go_num, by first | rfl | go_num, .inr (.inl ⟨rfl, hid ⟨HSN2.out.symm, by rw [HTN.out, Bool.or_false]; exact hSt.out.2⟩⟩), inferInstance, ⟨Gr.out⟩⟩
         case measure => simp [intOf]
       · go_ret2
         have hT4 := touchT_mono (k := 4) (show touchT l (a, b) (c, d) 1 = true by rw [HTN.out, Bool.or_true]) (by decide)
         exact ⟨by rw [HE1.out, HE2.out, if_pos hT4, if_pos hT4]; rfl, ⟨Gr.out⟩⟩
  · skip
    have HXY := hid (side_start HASK.out 1); have HRT := hid (sideR_row (side_start HASK.out 1)); have HSN := hid (show sumT l (a, b) (c, d) 2 = sumT l (a, b) (c, d) 1 + sideT (sideX l (a, b) (c, d) 1) (sideY l (a, b) (c, d) 1) from rfl)
    have HTN := hid (touchT_next l (a, b) (c, d) 1); have hSb : -160 ≤ S ∧ S ≤ 160 := by have := sumT_bound HASK.out 1; rw [← hSt.out.1] at this; omega
    have hTb := (sideT_bound (sideX l (a, b) (c, d) 1) (sideY l (a, b) (c, d) 1)).resolve_right (by have := HXY.out.1; omega)
    have ALJ := AL1; go_upto_region 10 with fail
    go_cut [13, 14] from 46 to 58 (fun s13 s14 wx => Rw 160 EI wx s13 (sideX l (a, b) (c, d) 1) ∧ Rw 160 EI wx s14 (sideY l (a, b) (c, d) 1) ∧ Kp0 wr wx)
    case first =>
     go_region_held3 (fun W => W.cell? ⟨wr.heap.size, 0, none⟩ = some (.pointer (some ⟨p1, 0, none⟩)) ∧ W.cell? ⟨wr.heap.size, 1, none⟩ = some (.pointer (some ⟨q0, 0, none⟩)) ∧ W.cell? ⟨wq.heap.size, 4, none⟩ = some (.pointer (some ⟨p1, 0, none⟩)) ∧ W.cell? ⟨wq.heap.size, 5, none⟩ = some (.pointer (some ⟨q1, 0, none⟩))) (refine ⟨?_, ?_, ?_, ?_⟩ <;> (first | exact Bk.cell BkC.out rfl | (simp [go_sem]; done))) (first | (go_at_call 65; (with_reducible refine Calls.mono (gaSubC (by decide) (by decide) (by decide) (by decide)) ?_); rintro e wc ⟨_, _, rfl, _, _, _⟩) | (go_at_call 64; (with_reducible refine Calls.mono (ALJ.out _ _ _ _ _ inferInstance ⟨VrC.out⟩ inferInstance inferInstance inferInstance inferInstance) ?_); rintro e wd ⟨u, u', rfl, hu, hu', _⟩; have HU := hid hu; have HU' := hid hu'; clear hu hu'))
     all_goals (go_wp2_with fail; go_meet; exact ⟨HU.out, HU'.out, ⟨Gr.out⟩⟩)
    case rest =>
     obtain ⟨hU, hU', ik2⟩ := hcut; clear AL0 AL1 AL2 AL3 ALJ; generalize sideX l (a, b) (c, d) 1 = P at *; generalize sideY l (a, b) (c, d) 1 = Q at *; generalize hwd : wc = wd at *; clear hwd; obtain ⟨a1, c1, rfl, -⟩ := hU.form; obtain ⟨a2, c2, rfl, -⟩ := hU'.form; generalize hZZ : sideZ P Q = Z at *; have HRI : Hid (RowI 130 P Q) := hid (.inl HXY.out); have HRJ : Hid (RowI 130 Q P) := hid (.inl HXY.out.symm); by_cases hq : Q = []
     · subst hq; have hT0 : sideT P [] = 0 := by unfold sideT; rw [if_pos rfl]
       have hR0 : sideR P [] = rowI P [] := by unfold sideR; rw [if_pos rfl]
       rw [show (([] : List Int).length) = 0 from rfl] at hU' ⊢
       have HSN2 := hid (show sumT l (a, b) (c, d) 2 = S by rw [HSN.out, hT0, Int.add_zero]; exact hSt.out.1.symm)
       have ZE := hid (fun (W : World) (u : Value) (v : VrC W) (h : Rw 160 EI W u (lastL (rowI P []))) => show Calls Tryz.prog 68 #[u] W (fun e w' => e = .returned (.bool Z) ∧ Kp0 W w') from by
        have := gaZero (hv := v) h (by decide) (by decide) (hR0 ▸ HRT.out.2)
        rwa [show zeroI (lastL (rowI P [])) = Z by rw [← hZZ, ← hR0]; rfl] at this)
       have HU := hid hU; have HU' := hid hU'; obtain ⟨nP, hnP⟩ : ∃ nP, nP = P.length := ⟨_, rfl⟩; rw [← hnP] at HU ⊢; clear hU hU' hTb hZZ hnP hT0 hR0; cases Z
       all_goals go_wp2_with (first | (go_at_call 66; (with_reducible refine Calls.mono (gaRow (hv := ⟨VrC.out⟩) (HU'.out.below eok_EI Gr.out) (HU.out.below eok_EI Gr.out) (by decide) (by decide) HRJ.out) ?_); rintro e wa ⟨va, rfl, hva, _⟩; clear hva) | (go_at_call 66; (with_reducible refine Calls.mono (gaRowS (hv := ⟨VrC.out⟩) (HU.out.below eok_EI Gr.out) (HU'.out.below eok_EI Gr.out) (by decide) (by decide) HRI.out) ?_); rintro e wb ⟨gR, oR, nR, cR, uR, rfl, hgR, ceR, h63, hPR, hvb, _⟩; haveI : Has wb gR := ⟨hgR⟩; have HPR := hid hPR; have hi0 : (0 : Int) ≤ (nR : Int) := Int.natCast_nonneg _; have hi1 : (nR : Int) < (nR : Int) + 1 := Int.lt_succ _; clear hvb hPR hgR) | (go_at_call 68; (with_reducible refine Calls.mono (ZE.out _ _ inferInstance (HPR.out.below eok_EI Gr.out)) ?_); rintro e wc ⟨rfl, _⟩))
       · go_round
         case rel => exact ⟨2, S, by first | rfl | go_num, rfl, .inr (.inr (.inl ⟨rfl, hid ⟨HSN2.out.symm, by rw [HTN.out, Bool.or_false]; exact hSt.out.2⟩⟩)), inferInstance, ⟨Gr.out⟩⟩
         case measure => simp [intOf]
       · go_ret2
         have hT4 := touchT_mono (k := 4) (show touchT l (a, b) (c, d) 2 = true by rw [HTN.out, Bool.or_true]) (by decide)
         exact ⟨by rw [HE1.out, HE2.out, if_pos hT4, if_pos hT4]; rfl, ⟨Gr.out⟩⟩
     · have hR0 : sideR P Q = rowI Q P := by unfold sideR; rw [if_neg hq]
       have hT0 : sideT P Q = turnI (rowI Q P) := by unfold sideT; rw [if_neg hq]
       obtain ⟨T, hT⟩ : ∃ T, T = turnI (rowI Q P) := ⟨_, rfl⟩; rw [hT0, ← hT] at hTb; have HSN2 := hid (show sumT l (a, b) (c, d) 2 = S + T by rw [HSN.out, hT0, ← hT, ← hSt.out.1])
       have ZE := hid (fun (W : World) (u : Value) (v : VrC W) (h : Rw 160 EI W u (lastL (rowI Q P))) => show Calls Tryz.prog 68 #[u] W (fun e w' => e = .returned (.bool Z) ∧ Kp0 W w') from by
        have := gaZero (hv := v) h (by decide) (by decide) (hR0 ▸ HRT.out.2)
        rwa [show zeroI (lastL (rowI Q P)) = Z by rw [← hZZ, ← hR0]; rfl] at this)
       have TE := hid (fun (W : World) (u : Value) (h : Rw 101 (Rw 160 EI) W u (rowI Q P)) => show Calls Tryz.prog 67 #[u] W (fun e w' => e = .returned (.int .i64 T) ∧ Kp0 W w') from by
        have := gaTurned h (hR0 ▸ HRT.out.1)
        rwa [← hT] at this)
       have hw : IntKind.i64.wrap (S + T) = S + T := IntWalk.i64_in _ (by omega)
       have HU := hid hU; have HU' := hid hU'; obtain ⟨nP, hnP⟩ : ∃ nP, nP = P.length := ⟨_, rfl⟩; obtain ⟨nQ, hnQ⟩ : ∃ nQ, nQ = Q.length := ⟨_, rfl⟩; have hnq : ((nQ : Int) == 0) = false := beq_eq_false_iff_ne.2 (by have := List.length_pos_iff.2 hq; omega)
       rw [← hnP] at HU ⊢; rw [← hnQ] at HU' ⊢; clear hU hU' hTb hZZ hnP hnQ hT0 hR0 hq hT; cases Z
       all_goals go_wp2_with (first | (go_at_call 66; (with_reducible refine Calls.mono (gaRowS (hv := ⟨VrC.out⟩) (HU'.out.below eok_EI Gr.out) (HU.out.below eok_EI Gr.out) (by decide) (by decide) HRJ.out) ?_); rintro e wb ⟨gR, oR, nR, cR, uR, rfl, hgR, ceR, h63, hPR, hvb, _⟩; haveI : Has wb gR := ⟨hgR⟩; have HPR := hid hPR; have HVB := hid hvb; have hi0 : (0 : Int) ≤ (nR : Int) := Int.natCast_nonneg _; have hi1 : (nR : Int) < (nR : Int) + 1 := Int.lt_succ _; clear hvb hPR hgR) | (go_at_call 67; (with_reducible refine Calls.mono (TE.out _ _ (HVB.out.below eok_EZ Gr.out)) ?_); rintro e wa ⟨rfl, _⟩) | (go_at_call 68; (with_reducible refine Calls.mono (ZE.out _ _ inferInstance (HPR.out.below eok_EI Gr.out)) ?_); rintro e wc ⟨rfl, _⟩))
       · go_round
         case rel => exact ⟨2, S + T, by first | rfl | go_num, by first | rfl | go_num, .inr (.inr (.inl ⟨rfl, hid ⟨HSN2.out.symm, by rw [HTN.out, Bool.or_false]; exact hSt.out.2⟩⟩)), inferInstance, ⟨Gr.out⟩⟩
         case measure => simp [intOf]
       · go_ret2
         have hT4 := touchT_mono (k := 4) (show touchT l (a, b) (c, d) 2 = true by rw [HTN.out, Bool.or_true]) (by decide)
         exact ⟨by rw [HE1.out, HE2.out, if_pos hT4, if_pos hT4]; rfl, ⟨Gr.out⟩⟩
  · skip
    have HXY := hid (side_start HASK.out 2); have HRT := hid (sideR_row (side_start HASK.out 2)); have HSN := hid (show sumT l (a, b) (c, d) 3 = sumT l (a, b) (c, d) 2 + sideT (sideX l (a, b) (c, d) 2) (sideY l (a, b) (c, d) 2) from rfl)
    have HTN := hid (touchT_next l (a, b) (c, d) 2); have hSb : -160 ≤ S ∧ S ≤ 160 := by have := sumT_bound HASK.out 2; rw [← hSt.out.1] at this; omega
    have hTb := (sideT_bound (sideX l (a, b) (c, d) 2) (sideY l (a, b) (c, d) 2)).resolve_right (by have := HXY.out.1; omega)
    have ALJ := AL2; go_upto_region 10 with fail
    go_cut [13, 14] from 46 to 58 (fun s13 s14 wx => Rw 160 EI wx s13 (sideX l (a, b) (c, d) 2) ∧ Rw 160 EI wx s14 (sideY l (a, b) (c, d) 2) ∧ Kp0 wr wx)
    case first =>
     go_region_held3 (fun W => W.cell? ⟨wr.heap.size, 0, none⟩ = some (.pointer (some ⟨p1, 0, none⟩)) ∧ W.cell? ⟨wr.heap.size, 1, none⟩ = some (.pointer (some ⟨q1, 0, none⟩)) ∧ W.cell? ⟨wq.heap.size, 6, none⟩ = some (.pointer (some ⟨p0, 0, none⟩)) ∧ W.cell? ⟨wq.heap.size, 7, none⟩ = some (.pointer (some ⟨q1, 0, none⟩))) (refine ⟨?_, ?_, ?_, ?_⟩ <;> (first | exact Bk.cell BkC.out rfl | (simp [go_sem]; done))) (first | (go_at_call 65; (with_reducible refine Calls.mono (gaSubC (by decide) (by decide) (by decide) (by decide)) ?_); rintro e wc ⟨_, _, rfl, _, _, _⟩) | (go_at_call 64; (with_reducible refine Calls.mono (ALJ.out _ _ _ _ _ inferInstance ⟨VrC.out⟩ inferInstance inferInstance inferInstance inferInstance) ?_); rintro e wd ⟨u, u', rfl, hu, hu', _⟩; have HU := hid hu; have HU' := hid hu'; clear hu hu'))
     all_goals (go_wp2_with fail; go_meet; exact ⟨HU.out, HU'.out, ⟨Gr.out⟩⟩)
    case rest =>
     obtain ⟨hU, hU', ik2⟩ := hcut; clear AL0 AL1 AL2 AL3 ALJ; generalize sideX l (a, b) (c, d) 2 = P at *; generalize sideY l (a, b) (c, d) 2 = Q at *; generalize hwd : wc = wd at *; clear hwd; obtain ⟨a1, c1, rfl, -⟩ := hU.form; obtain ⟨a2, c2, rfl, -⟩ := hU'.form; generalize hZZ : sideZ P Q = Z at *; have HRI : Hid (RowI 130 P Q) := hid (.inl HXY.out); have HRJ : Hid (RowI 130 Q P) := hid (.inl HXY.out.symm); by_cases hq : Q = []
     · subst hq; have hT0 : sideT P [] = 0 := by unfold sideT; rw [if_pos rfl]
       have hR0 : sideR P [] = rowI P [] := by unfold sideR; rw [if_pos rfl]
       rw [show (([] : List Int).length) = 0 from rfl] at hU' ⊢
       have HSN2 := hid (show sumT l (a, b) (c, d) 3 = S by rw [HSN.out, hT0, Int.add_zero]; exact hSt.out.1.symm)
       have ZE := hid (fun (W : World) (u : Value) (v : VrC W) (h : Rw 160 EI W u (lastL (rowI P []))) => show Calls Tryz.prog 68 #[u] W (fun e w' => e = .returned (.bool Z) ∧ Kp0 W w') from by
        have := gaZero (hv := v) h (by decide) (by decide) (hR0 ▸ HRT.out.2)
        rwa [show zeroI (lastL (rowI P [])) = Z by rw [← hZZ, ← hR0]; rfl] at this)
       have HU := hid hU; have HU' := hid hU'; obtain ⟨nP, hnP⟩ : ∃ nP, nP = P.length := ⟨_, rfl⟩; rw [← hnP] at HU ⊢; clear hU hU' hTb hZZ hnP hT0 hR0; cases Z
       all_goals go_wp2_with (first | (go_at_call 66; (with_reducible refine Calls.mono (gaRow (hv := ⟨VrC.out⟩) (HU'.out.below eok_EI Gr.out) (HU.out.below eok_EI Gr.out) (by decide) (by decide) HRJ.out) ?_); rintro e wa ⟨va, rfl, hva, _⟩; clear hva) | (go_at_call 66; (with_reducible refine Calls.mono (gaRowS (hv := ⟨VrC.out⟩) (HU.out.below eok_EI Gr.out) (HU'.out.below eok_EI Gr.out) (by decide) (by decide) HRI.out) ?_); rintro e wb ⟨gR, oR, nR, cR, uR, rfl, hgR, ceR, h63, hPR, hvb, _⟩; haveI : Has wb gR := ⟨hgR⟩; have HPR := hid hPR; have hi0 : (0 : Int) ≤ (nR : Int) := Int.natCast_nonneg _; have hi1 : (nR : Int) < (nR : Int) + 1 := Int.lt_succ _; clear hvb hPR hgR) | (go_at_call 68; (with_reducible refine Calls.mono (ZE.out _ _ inferInstance (HPR.out.below eok_EI Gr.out)) ?_); rintro e wc ⟨rfl, _⟩))
       · go_round
         case rel => exact ⟨3, S, by first | rfl | go_num, rfl, .inr (.inr (.inr (.inl ⟨rfl, hid ⟨HSN2.out.symm, by rw [HTN.out, Bool.or_false]; exact hSt.out.2⟩⟩))), inferInstance, ⟨Gr.out⟩⟩
         case measure => simp [intOf]
       · go_ret2
         have hT4 := touchT_mono (k := 4) (show touchT l (a, b) (c, d) 3 = true by rw [HTN.out, Bool.or_true]) (by decide)
         exact ⟨by rw [HE1.out, HE2.out, if_pos hT4, if_pos hT4]; rfl, ⟨Gr.out⟩⟩
     · have hR0 : sideR P Q = rowI Q P := by unfold sideR; rw [if_neg hq]
       have hT0 : sideT P Q = turnI (rowI Q P) := by unfold sideT; rw [if_neg hq]
       obtain ⟨T, hT⟩ : ∃ T, T = turnI (rowI Q P) := ⟨_, rfl⟩; rw [hT0, ← hT] at hTb; have HSN2 := hid (show sumT l (a, b) (c, d) 3 = S + T by rw [HSN.out, hT0, ← hT, ← hSt.out.1])
       have ZE := hid (fun (W : World) (u : Value) (v : VrC W) (h : Rw 160 EI W u (lastL (rowI Q P))) => show Calls Tryz.prog 68 #[u] W (fun e w' => e = .returned (.bool Z) ∧ Kp0 W w') from by
        have := gaZero (hv := v) h (by decide) (by decide) (hR0 ▸ HRT.out.2)
        rwa [show zeroI (lastL (rowI Q P)) = Z by rw [← hZZ, ← hR0]; rfl] at this)
       have TE := hid (fun (W : World) (u : Value) (h : Rw 101 (Rw 160 EI) W u (rowI Q P)) => show Calls Tryz.prog 67 #[u] W (fun e w' => e = .returned (.int .i64 T) ∧ Kp0 W w') from by
        have := gaTurned h (hR0 ▸ HRT.out.1)
        rwa [← hT] at this)
       have hw : IntKind.i64.wrap (S + T) = S + T := IntWalk.i64_in _ (by omega)
       have HU := hid hU; have HU' := hid hU'; obtain ⟨nP, hnP⟩ : ∃ nP, nP = P.length := ⟨_, rfl⟩; obtain ⟨nQ, hnQ⟩ : ∃ nQ, nQ = Q.length := ⟨_, rfl⟩; have hnq : ((nQ : Int) == 0) = false := beq_eq_false_iff_ne.2 (by have := List.length_pos_iff.2 hq; omega)
       rw [← hnP] at HU ⊢; rw [← hnQ] at HU' ⊢; clear hU hU' hTb hZZ hnP hnQ hT0 hR0 hq hT; cases Z
       all_goals go_wp2_with (first | (go_at_call 66; (with_reducible refine Calls.mono (gaRowS (hv := ⟨VrC.out⟩) (HU'.out.below eok_EI Gr.out) (HU.out.below eok_EI Gr.out) (by decide) (by decide) HRJ.out) ?_); rintro e wb ⟨gR, oR, nR, cR, uR, rfl, hgR, ceR, h63, hPR, hvb, _⟩; haveI : Has wb gR := ⟨hgR⟩; have HPR := hid hPR; have HVB := hid hvb; have hi0 : (0 : Int) ≤ (nR : Int) := Int.natCast_nonneg _; have hi1 : (nR : Int) < (nR : Int) + 1 := Int.lt_succ _; clear hvb hPR hgR) | (go_at_call 67; (with_reducible refine Calls.mono (TE.out _ _ (HVB.out.below eok_EZ Gr.out)) ?_); rintro e wa ⟨rfl, _⟩) | (go_at_call 68; (with_reducible refine Calls.mono (ZE.out _ _ inferInstance (HPR.out.below eok_EI Gr.out)) ?_); rintro e wc ⟨rfl, _⟩))
       · go_round
         case rel => exact ⟨3, S + T, by first | rfl | go_num, by first | rfl | go_num, .inr (.inr (.inr (.inl ⟨rfl, hid ⟨HSN2.out.symm, by rw [HTN.out, Bool.or_false]; exact hSt.out.2⟩⟩))), inferInstance, ⟨Gr.out⟩⟩
         case measure => simp [intOf]
       · go_ret2
         have hT4 := touchT_mono (k := 4) (show touchT l (a, b) (c, d) 3 = true by rw [HTN.out, Bool.or_true]) (by decide)
         exact ⟨by rw [HE1.out, HE2.out, if_pos hT4, if_pos hT4]; rfl, ⟨Gr.out⟩⟩
  · skip
    have HXY := hid (side_start HASK.out 3); have HRT := hid (sideR_row (side_start HASK.out 3)); have HSN := hid (show sumT l (a, b) (c, d) 4 = sumT l (a, b) (c, d) 3 + sideT (sideX l (a, b) (c, d) 3) (sideY l (a, b) (c, d) 3) from rfl)
    have HTN := hid (touchT_next l (a, b) (c, d) 3); have hSb : -160 ≤ S ∧ S ≤ 160 := by have := sumT_bound HASK.out 3; rw [← hSt.out.1] at this; omega
    have hTb := (sideT_bound (sideX l (a, b) (c, d) 3) (sideY l (a, b) (c, d) 3)).resolve_right (by have := HXY.out.1; omega)
    have ALJ := AL3; go_upto_region 10 with fail
    go_cut [13, 14] from 46 to 58 (fun s13 s14 wx => Rw 160 EI wx s13 (sideX l (a, b) (c, d) 3) ∧ Rw 160 EI wx s14 (sideY l (a, b) (c, d) 3) ∧ Kp0 wr wx)
    case first =>
     go_region_held3 (fun W => W.cell? ⟨wr.heap.size, 0, none⟩ = some (.pointer (some ⟨p0, 0, none⟩)) ∧ W.cell? ⟨wr.heap.size, 1, none⟩ = some (.pointer (some ⟨q1, 0, none⟩)) ∧ W.cell? ⟨wq.heap.size, 0, none⟩ = some (.pointer (some ⟨p0, 0, none⟩)) ∧ W.cell? ⟨wq.heap.size, 1, none⟩ = some (.pointer (some ⟨q0, 0, none⟩))) (refine ⟨?_, ?_, ?_, ?_⟩ <;> (first | exact Bk.cell BkC.out rfl | (simp [go_sem]; done))) (first | (go_at_call 65; (with_reducible refine Calls.mono (gaSubC (by decide) (by decide) (by decide) (by decide)) ?_); rintro e wc ⟨_, _, rfl, _, _, _⟩) | (go_at_call 64; (with_reducible refine Calls.mono (ALJ.out _ _ _ _ _ inferInstance ⟨VrC.out⟩ inferInstance inferInstance inferInstance inferInstance) ?_); rintro e wd ⟨u, u', rfl, hu, hu', _⟩; have HU := hid hu; have HU' := hid hu'; clear hu hu'))
     all_goals (go_wp2_with fail; go_meet; exact ⟨HU.out, HU'.out, ⟨Gr.out⟩⟩)
    case rest =>
     obtain ⟨hU, hU', ik2⟩ := hcut; clear AL0 AL1 AL2 AL3 ALJ; generalize sideX l (a, b) (c, d) 3 = P at *; generalize sideY l (a, b) (c, d) 3 = Q at *; generalize hwd : wc = wd at *; clear hwd; obtain ⟨a1, c1, rfl, -⟩ := hU.form; obtain ⟨a2, c2, rfl, -⟩ := hU'.form; generalize hZZ : sideZ P Q = Z at *; have HRI : Hid (RowI 130 P Q) := hid (.inl HXY.out); have HRJ : Hid (RowI 130 Q P) := hid (.inl HXY.out.symm); by_cases hq : Q = []
     · subst hq; have hT0 : sideT P [] = 0 := by unfold sideT; rw [if_pos rfl]
       have hR0 : sideR P [] = rowI P [] := by unfold sideR; rw [if_pos rfl]
       rw [show (([] : List Int).length) = 0 from rfl] at hU' ⊢
       have HSN2 := hid (show sumT l (a, b) (c, d) 4 = S by rw [HSN.out, hT0, Int.add_zero]; exact hSt.out.1.symm)
       have ZE := hid (fun (W : World) (u : Value) (v : VrC W) (h : Rw 160 EI W u (lastL (rowI P []))) => show Calls Tryz.prog 68 #[u] W (fun e w' => e = .returned (.bool Z) ∧ Kp0 W w') from by
        have := gaZero (hv := v) h (by decide) (by decide) (hR0 ▸ HRT.out.2)
        rwa [show zeroI (lastL (rowI P [])) = Z by rw [← hZZ, ← hR0]; rfl] at this)
       have HU := hid hU; have HU' := hid hU'; obtain ⟨nP, hnP⟩ : ∃ nP, nP = P.length := ⟨_, rfl⟩; rw [← hnP] at HU ⊢; clear hU hU' hTb hZZ hnP hT0 hR0; cases Z
       all_goals go_wp2_with (first | (go_at_call 66; (with_reducible refine Calls.mono (gaRow (hv := ⟨VrC.out⟩) (HU'.out.below eok_EI Gr.out) (HU.out.below eok_EI Gr.out) (by decide) (by decide) HRJ.out) ?_); rintro e wa ⟨va, rfl, hva, _⟩; clear hva) | (go_at_call 66; (with_reducible refine Calls.mono (gaRowS (hv := ⟨VrC.out⟩) (HU.out.below eok_EI Gr.out) (HU'.out.below eok_EI Gr.out) (by decide) (by decide) HRI.out) ?_); rintro e wb ⟨gR, oR, nR, cR, uR, rfl, hgR, ceR, h63, hPR, hvb, _⟩; haveI : Has wb gR := ⟨hgR⟩; have HPR := hid hPR; have hi0 : (0 : Int) ≤ (nR : Int) := Int.natCast_nonneg _; have hi1 : (nR : Int) < (nR : Int) + 1 := Int.lt_succ _; clear hvb hPR hgR) | (go_at_call 68; (with_reducible refine Calls.mono (ZE.out _ _ inferInstance (HPR.out.below eok_EI Gr.out)) ?_); rintro e wc ⟨rfl, _⟩))
       · go_round
         case rel => exact ⟨4, S, by first | rfl | go_num, rfl, .inr (.inr (.inr (.inr (⟨rfl, hid ⟨HSN2.out.symm, by rw [HTN.out, Bool.or_false]; exact hSt.out.2⟩⟩)))), inferInstance, ⟨Gr.out⟩⟩
         case measure => simp [intOf]
       · go_ret2
         have hT4 := touchT_mono (k := 4) (show touchT l (a, b) (c, d) 4 = true by rw [HTN.out, Bool.or_true]) (by decide)
         exact ⟨by rw [HE1.out, HE2.out, if_pos hT4, if_pos hT4]; rfl, ⟨Gr.out⟩⟩
     · have hR0 : sideR P Q = rowI Q P := by unfold sideR; rw [if_neg hq]
       have hT0 : sideT P Q = turnI (rowI Q P) := by unfold sideT; rw [if_neg hq]
       obtain ⟨T, hT⟩ : ∃ T, T = turnI (rowI Q P) := ⟨_, rfl⟩; rw [hT0, ← hT] at hTb; have HSN2 := hid (show sumT l (a, b) (c, d) 4 = S + T by rw [HSN.out, hT0, ← hT, ← hSt.out.1])
       have ZE := hid (fun (W : World) (u : Value) (v : VrC W) (h : Rw 160 EI W u (lastL (rowI Q P))) => show Calls Tryz.prog 68 #[u] W (fun e w' => e = .returned (.bool Z) ∧ Kp0 W w') from by
        have := gaZero (hv := v) h (by decide) (by decide) (hR0 ▸ HRT.out.2)
        rwa [show zeroI (lastL (rowI Q P)) = Z by rw [← hZZ, ← hR0]; rfl] at this)
       have TE := hid (fun (W : World) (u : Value) (h : Rw 101 (Rw 160 EI) W u (rowI Q P)) => show Calls Tryz.prog 67 #[u] W (fun e w' => e = .returned (.int .i64 T) ∧ Kp0 W w') from by
        have := gaTurned h (hR0 ▸ HRT.out.1)
        rwa [← hT] at this)
       have hw : IntKind.i64.wrap (S + T) = S + T := IntWalk.i64_in _ (by omega)
       have HU := hid hU; have HU' := hid hU'; obtain ⟨nP, hnP⟩ : ∃ nP, nP = P.length := ⟨_, rfl⟩; obtain ⟨nQ, hnQ⟩ : ∃ nQ, nQ = Q.length := ⟨_, rfl⟩; have hnq : ((nQ : Int) == 0) = false := beq_eq_false_iff_ne.2 (by have := List.length_pos_iff.2 hq; omega)
       rw [← hnP] at HU ⊢; rw [← hnQ] at HU' ⊢; clear hU hU' hTb hZZ hnP hnQ hT0 hR0 hq hT; cases Z
       all_goals go_wp2_with (first | (go_at_call 66; (with_reducible refine Calls.mono (gaRowS (hv := ⟨VrC.out⟩) (HU'.out.below eok_EI Gr.out) (HU.out.below eok_EI Gr.out) (by decide) (by decide) HRJ.out) ?_); rintro e wb ⟨gR, oR, nR, cR, uR, rfl, hgR, ceR, h63, hPR, hvb, _⟩; haveI : Has wb gR := ⟨hgR⟩; have HPR := hid hPR; have HVB := hid hvb; have hi0 : (0 : Int) ≤ (nR : Int) := Int.natCast_nonneg _; have hi1 : (nR : Int) < (nR : Int) + 1 := Int.lt_succ _; clear hvb hPR hgR) | (go_at_call 67; (with_reducible refine Calls.mono (TE.out _ _ (HVB.out.below eok_EZ Gr.out)) ?_); rintro e wa ⟨rfl, _⟩) | (go_at_call 68; (with_reducible refine Calls.mono (ZE.out _ _ inferInstance (HPR.out.below eok_EI Gr.out)) ?_); rintro e wc ⟨rfl, _⟩))
       · go_round
         case rel => exact ⟨4, S + T, by first | rfl | go_num, by first | rfl | go_num, .inr (.inr (.inr (.inr (⟨rfl, hid ⟨HSN2.out.symm, by rw [HTN.out, Bool.or_false]; exact hSt.out.2⟩⟩)))), inferInstance, ⟨Gr.out⟩⟩
         case measure => simp [intOf]
       · go_ret2
         have hT4 := touchT_mono (k := 4) (show touchT l (a, b) (c, d) 4 = true by rw [HTN.out, Bool.or_true]) (by decide)
         exact ⟨by rw [HE1.out, HE2.out, if_pos hT4, if_pos hT4]; rfl, ⟨Gr.out⟩⟩
  · skip
    have h1 := hSt.out; have hSb : -160 ≤ S ∧ S ≤ 160 := by have := sumT_bound HASK.out 4; rw [← h1.1] at this; omega
    have HV1 : Hid (E1 = S.tdiv 4) := hid (by rw [HE1.out, if_neg (by rw [h1.2]; decide), h1.1])
    have HV2 : Hid (E2 = 0) := hid (by rw [HE2.out, if_neg (by rw [h1.2]; decide)])
    have hw : IntKind.i64.wrap (S.tdiv 4) = S.tdiv 4 := IntWalk.i64_in _ (by
     have e := tdiv4_bound hSb
     omega)
    clear h1; go_wp2_with fail
    go_ret2
    exact ⟨by rw [HV1.out, HV2.out]; rfl, ⟨Gr.out⟩⟩
theorem gaZeros {w : World} {g off cap : Nat} {l : List (Nat × Nat)} {a b c d : Nat} [hc : ClC w g off l] [hv : VrC w] (hl : okB l) (ha : a < 18446744073709551616) (hb : b < 18446744073709551616) (hc' : c < 18446744073709551616) (hd : d < 18446744073709551616) :
 Calls Tryz.prog 18 #[.slice (some ⟨g, off, none⟩) l.length cap, .agg #[.complex .f64 a b, .complex .f64 c d]] w fun e w' => e = .returned (.tuple #[.int .i64 (zerosN l (a, b) (c, d)).1, .int .i64 (zerosN l (a, b) (c, d)).2]) ∧ Kp0 w w' := by
 unfold zerosN; by_cases h : askE l (a, b) (c, d) = 0
 · rw [if_neg (fun k => k h)]
   have := gaZerosOk (hc := hc) (hv := ⟨hv.out⟩) (cap := cap) hl ha hb hc' hd h; by_cases ht : touchT l (a, b) (c, d) 4 = true
   · rw [if_pos ht, if_pos ht] at this; rw [if_pos ht]; exact this
   · rw [if_neg ht, if_neg ht] at this; rw [if_neg ht]; exact this
 · rw [if_pos h]; exact gaZerosErr hl ha hb hc' hd h
end Go.Proofs.YthjeejnggpjnjaaGreatDoor
