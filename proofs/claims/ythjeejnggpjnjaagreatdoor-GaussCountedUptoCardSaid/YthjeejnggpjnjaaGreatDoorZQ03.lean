/- A part: FA, FB. -/
import Derived.Test.YthjeejnggpjnjaaGreatDoorZQ00
set_option linter.unusedSimpArgs false
set_option linter.unusedVariables false
set_option maxRecDepth 100000
set_option maxHeartbeats 16000000
set_option synthInstance.maxHeartbeats 2000000
set_option synthInstance.maxSize 100000
namespace Go.Proofs.YthjeejnggpjnjaaGreatDoor
open Go.RowKit
set_option maxRecDepth 100000
abbrev Qt := _root_.Rat
def sgn (x : Qt) : Int := if 0 < x then 1 else if x < 0 then -1 else 0
theorem sgn_pos {x : Qt} (h : 0 < x) : sgn x = 1 := by unfold sgn; rw [if_pos h]
theorem sgn_neg {x : Qt} (h : x < 0) : sgn x = -1 := by unfold sgn; rw [if_neg (by grind), if_pos h]
theorem sgn_zero : sgn 0 = 0 := by decide
theorem sgn_cases (x : Qt) : (0 < x ∧ sgn x = 1) ∨ (x = 0 ∧ sgn x = 0) ∨ (x < 0 ∧ sgn x = -1) := by
 unfold sgn; by_cases h : 0 < x
 · left; exact ⟨h, if_pos h⟩
 · by_cases k : x < 0
   · right; right; exact ⟨k, by rw [if_neg h, if_pos k]⟩
   · right; left; exact ⟨by grind, by rw [if_neg h, if_neg k]⟩
theorem sgn_mem (x : Qt) : sgn x ∈ [(-1 : Int), 0, 1] := by
 rcases sgn_cases x with ⟨-, h⟩ | ⟨-, h⟩ | ⟨-, h⟩ <;> rw [h] <;> decide
theorem mul_neg_of {x y : Qt} (hx : 0 < x) (hy : y < 0) : x * y < 0 := by
 have := Rat.mul_pos hx (show 0 < -y by grind)
 grind
theorem mul_pos_neg {x y : Qt} (hx : x < 0) (hy : y < 0) : 0 < x * y := by
 have := Rat.mul_pos (show 0 < -x by grind) (show 0 < -y by grind)
 grind
theorem sgn_mul (x y : Qt) : sgn (x * y) = sgn x * sgn y := by
 rcases sgn_cases x with ⟨hx, ex⟩ | ⟨hx, ex⟩ | ⟨hx, ex⟩ <;> rcases sgn_cases y with ⟨hy, ey⟩ | ⟨hy, ey⟩ | ⟨hy, ey⟩ <;> rw [ex, ey]
 · rw [sgn_pos (Rat.mul_pos hx hy)]; rfl
 · rw [hy, Rat.mul_zero, sgn_zero]; rfl
 · rw [sgn_neg (mul_neg_of hx hy)]; rfl
 · rw [hx, Rat.zero_mul, sgn_zero]; rfl
 · rw [hx, Rat.zero_mul, sgn_zero]; rfl
 · rw [hx, Rat.zero_mul, sgn_zero]; rfl
 · rw [Rat.mul_comm, sgn_neg (mul_neg_of hy hx)]; rfl
 · rw [hy, Rat.mul_zero, sgn_zero]; rfl
 · rw [sgn_pos (mul_pos_neg hx hy)]; rfl
theorem sgn_minus (x : Qt) : sgn (-x) = -sgn x := by
 rcases sgn_cases x with ⟨hx, ex⟩ | ⟨hx, ex⟩ | ⟨hx, ex⟩ <;> rw [ex]
 · exact sgn_neg (by grind)
 · rw [hx]; decide
 · exact sgn_pos (by grind)
def con (a b c : Int) : Prop := (a = b ∧ a ≠ 0) ∨ c = (a - b).sign
instance con_dec (a b c : Int) : Decidable (con a b c) := by unfold con; infer_instance
theorem con_of {x y z : Qt} (h : x - y = z) : con (sgn x) (sgn y) (sgn z) := by
 rcases sgn_cases x with ⟨hx, ex⟩ | ⟨hx, ex⟩ | ⟨hx, ex⟩ <;> rcases sgn_cases y with ⟨hy, ey⟩ | ⟨hy, ey⟩ | ⟨hy, ey⟩ <;> rw [ex, ey]
 · exact .inl ⟨rfl, by decide⟩
 · rw [sgn_pos (show 0 < z by grind)]; decide
 · rw [sgn_pos (show 0 < z by grind)]; decide
 · rw [sgn_neg (show z < 0 by grind)]; decide
 · rw [show z = 0 by grind, sgn_zero]; decide
 · rw [sgn_pos (show 0 < z by grind)]; decide
 · rw [sgn_neg (show z < 0 by grind)]; decide
 · rw [sgn_neg (show z < 0 by grind)]; decide
 · exact .inl ⟨rfl, by decide⟩
def far (a b : Int) : Int := max (a - b) (b - a)
abbrev Cx := Qt × Qt
def crs (z w : Cx) : Qt := z.1 * w.2 - z.2 * w.1
def dot (z w : Cx) : Qt := z.1 * w.1 + z.2 * w.2
def nrm (z : Cx) : Qt := z.1 * z.1 + z.2 * z.2
def tim (x y : Cx) : Cx := (x.1 * y.1 - x.2 * y.2, x.1 * y.2 + x.2 * y.1)
def pls (x y : Cx) : Cx := (x.1 + y.1, x.2 + y.2)
def dl (z w : Cx) : Int := sgn (crs z w) * far (sgn w.2) (sgn z.2)
theorem sq_nonneg (x : Qt) : 0 ≤ x * x := by
 rcases sgn_cases x with ⟨hx, -⟩ | ⟨hx, -⟩ | ⟨hx, -⟩
 · exact Rat.le_of_lt (Rat.mul_pos hx hx)
 · rw [hx, Rat.zero_mul]; exact Rat.le_refl
 · exact Rat.le_of_lt (mul_pos_neg hx hx)
theorem sq_pos {x : Qt} (h : x ≠ 0) : 0 < x * x := by
 rcases sgn_cases x with ⟨hx, -⟩ | ⟨hx, -⟩ | ⟨hx, -⟩
 · exact Rat.mul_pos hx hx
 · exact absurd hx h
 · exact mul_pos_neg hx hx
theorem nrm_nonneg (z : Cx) : 0 ≤ nrm z := Rat.add_nonneg (sq_nonneg _) (sq_nonneg _)
theorem nrm_pos {z : Cx} (h : z ≠ (0, 0)) : 0 < nrm z := by
 unfold nrm; have a := sq_nonneg z.1; have b := sq_nonneg z.2; by_cases h1 : z.1 = 0
 · by_cases h2 : z.2 = 0
   · exact absurd (Prod.ext h1 h2) h
   · have := sq_pos h2; grind
 · have := sq_pos h1; grind
theorem nrm_ne {z : Cx} (h : 0 < nrm z) : z ≠ (0, 0) := by
 rintro rfl; unfold nrm at h
 grind
theorem nrm_tim (z w : Cx) : nrm (tim z w) = nrm z * nrm w := by unfold nrm tim; grind
theorem dot_ne {z w : Cx} (h : 0 < dot z w) : 0 < nrm z ∧ 0 < nrm w := by
 constructor
 · refine nrm_pos (fun e => ?_)
   rw [e] at h; unfold dot at h; grind
 · refine nrm_pos (fun e => ?_)
   rw [e] at h; unfold dot at h; grind
theorem same_sense {z w : Cx} (h : 0 < dot z w) (hc : crs z w = 0) : sgn z.2 = sgn w.2 := by
 have h1 : nrm z * w.2 = dot z w * z.2 := by
  have e : nrm z * w.2 = dot z w * z.2 + crs z w * z.1 := by unfold nrm dot crs; grind
  rw [e, hc]; grind
 have h2 := congrArg sgn h1; rw [sgn_mul, sgn_mul, sgn_pos (dot_ne h).1, sgn_pos h] at h2; omega
theorem dot_tim (z w x : Cx) : dot (tim z x) (tim w x) = nrm x * dot z w := by unfold dot tim nrm; grind
theorem crs_tim (z w x : Cx) : crs (tim z x) (tim w x) = nrm x * crs z w := by unfold crs tim nrm; grind
theorem tim_comm (z w : Cx) : tim z w = tim w z := by unfold tim; ext <;> grind
def car (z w : Cx) : Int := -(sgn z.2 * sgn w.2 * sgn (tim z w).2)
theorem dl_tim_dec : ∀ X ∈ [(-1 : Int), 0, 1], ∀ Y ∈ [(-1 : Int), 0, 1], ∀ E ∈ [(-1 : Int), 0, 1], ∀ C ∈ [(-1 : Int), 0, 1], ∀ P ∈ [(-1 : Int), 0, 1], ∀ R ∈ [(-1 : Int), 0, 1],
 con (P * Y) (R * X) (E * C) → (C = 0 → X = Y ∧ P = R) → E ≠ 0 → C * far R P = C * far Y X - Y * E * R + X * E * P := by decide +kernel
theorem dl_tim {z w x : Cx} (hd : 0 < dot z w) (hx : 0 < nrm x) : dl (tim z x) (tim w x) = dl z w + car w x - car z x := by
 unfold dl car; rw [crs_tim, sgn_mul, sgn_pos hx, Int.one_mul]; have hI : (tim z x).2 * w.2 - (tim w x).2 * z.2 = x.2 * crs z w := by unfold tim crs; grind
 have hc := con_of hI; rw [sgn_mul, sgn_mul, sgn_mul] at hc; by_cases hE : sgn x.2 = 0
 · have e : x.2 = 0 := by rcases sgn_cases x.2 with ⟨-, h⟩ | ⟨h, -⟩ | ⟨-, h⟩ <;> first | exact h | (rw [h] at hE; exact absurd hE (by decide))
   have hu : x.1 ≠ 0 := fun h => nrm_ne hx (Prod.ext h e)
   have h1 : (tim z x).2 = z.2 * x.1 := by unfold tim; rw [e]; grind
   have h2 : (tim w x).2 = w.2 * x.1 := by unfold tim; rw [e]; grind
   rw [h1, h2, sgn_mul, sgn_mul, hE]; rcases sgn_cases x.1 with ⟨-, h⟩ | ⟨h, -⟩ | ⟨-, h⟩
   · rw [h]; simp
   · exact absurd h hu
   · rw [h]; unfold far; simp only [Int.mul_zero, Int.zero_mul]; have : ∀ a b : Int, max (a * -1 - b * -1) (b * -1 - a * -1) = max (a - b) (b - a) := by intro a b; omega
     rw [this]; simp
 · have := dl_tim_dec _ (sgn_mem z.2) _ (sgn_mem w.2) _ (sgn_mem x.2) _ (sgn_mem (crs z w)) _ (sgn_mem (tim z x).2) _ (sgn_mem (tim w x).2) hc (fun h0 => by
    have e0 : crs z w = 0 := by rcases sgn_cases (crs z w) with ⟨-, h⟩ | ⟨h, -⟩ | ⟨-, h⟩ <;> first | exact h | (rw [h] at h0; exact absurd h0 (by decide))
    refine ⟨same_sense hd e0, same_sense ?_ ?_⟩
    · rw [dot_tim]; exact Rat.mul_pos hx hd
    · rw [crs_tim, e0, Rat.mul_zero]) hE
   rw [this]; omega
theorem dl_add_dec : ∀ X ∈ [(-1 : Int), 0, 1], ∀ Y ∈ [(-1 : Int), 0, 1], ∀ Z ∈ [(-1 : Int), 0, 1], ∀ S1 ∈ [(-1 : Int), 0, 1], ∀ S2 ∈ [(-1 : Int), 0, 1], ∀ S3 ∈ [(-1 : Int), 0, 1],
 con (Y * S3) (Z * S1) (X * S2) → con S3 S1 S2 → (S1 = 0 → X = Y) → (S2 = 0 → Y = Z) → (S3 = 0 → X = Z) → (X = 0 → Y = 0 → S1 = 0) → (Y = 0 → Z = 0 → S2 = 0) → (X = 0 → Z = 0 → S3 = 0) →
 S1 * far Y X + S2 * far Z Y = S3 * far Z X := by decide +kernel
theorem zero_of {x : Qt} (h : sgn x = 0) : x = 0 := by
 rcases sgn_cases x with ⟨-, h'⟩ | ⟨h', -⟩ | ⟨-, h'⟩
 · rw [h'] at h; exact absurd h (by decide)
 · exact h'
 · rw [h'] at h; exact absurd h (by decide)
theorem crs_real {z w : Cx} (hz : sgn z.2 = 0) (hw : sgn w.2 = 0) : sgn (crs z w) = 0 := by
 unfold crs; rw [zero_of hz, zero_of hw, show z.1 * 0 - 0 * w.1 = 0 by grind, sgn_zero]
theorem dl_add {a b c : Cx} (h1 : 0 < dot a b) (h2 : 0 < dot b c) : dl a b + dl b c = dl a c := by
 have hb := (dot_ne h1).2; have i1 : b.2 * crs a c - c.2 * crs a b = a.2 * crs b c := by unfold crs; grind
 have i2 : nrm b * crs a c - dot b c * crs a b = dot a b * crs b c := by unfold crs nrm dot; grind
 have c1 := con_of i1; have c2 := con_of i2; simp only [sgn_mul] at c1 c2; rw [sgn_pos hb, sgn_pos h1, sgn_pos h2, Int.one_mul, Int.one_mul, Int.one_mul] at c2; refine dl_add_dec _ (sgn_mem a.2) _ (sgn_mem b.2) _ (sgn_mem c.2) _ (sgn_mem (crs a b)) _ (sgn_mem (crs b c)) _ (sgn_mem (crs a c)) c1 c2 (fun h => same_sense h1 (zero_of h)) (fun h => same_sense h2 (zero_of h)) (fun h => ?_) (fun x y => crs_real x y) (fun x y => crs_real x y) (fun x y => crs_real x y)
 refine same_sense ?_ (zero_of h)
 have e : crs b c * dot a b = -(dot b c * crs a b) := by have := zero_of h; rw [this] at i2; grind
 have i3 : nrm b * dot a c = dot a b * dot b c - crs a b * crs b c := by unfold crs nrm dot; grind
 have h3 : 0 ≤ -(crs a b * crs b c) := by
  have k : -(crs a b * crs b c) * dot a b = dot b c * (crs a b * crs a b) := by
   have : -(crs a b * crs b c) * dot a b = -(crs a b) * (crs b c * dot a b) := by grind
   rw [this, e]; grind
  have k2 : 0 ≤ -(crs a b * crs b c) * dot a b := by rw [k]; exact Rat.mul_nonneg (Rat.le_of_lt h2) (sq_nonneg _)
  exact Rat.le_of_mul_le_mul_right (by rw [Rat.zero_mul]; exact k2) h1
 have h4 : 0 < nrm b * dot a c := by
  rw [i3]; have := Rat.mul_pos h1 h2; grind
 exact (Rat.mul_pos_iff_of_pos_left hb).1 h4
def Lp (f : Qt → Qt) : Prop := ∃ L : Qt, 0 ≤ L ∧ ∀ s t, 0 ≤ s → s ≤ t → t ≤ 1 → -(L * (t - s)) ≤ f t - f s ∧ f t - f s ≤ L * (t - s)
theorem prod_bd {x y M N : Qt} (hx : -M ≤ x ∧ x ≤ M) (hy : -N ≤ y ∧ y ≤ N) : -(M * N) ≤ x * y ∧ x * y ≤ M * N := by
 have a := Rat.mul_nonneg (show 0 ≤ M - x by grind) (show 0 ≤ N - y by grind)
 have b := Rat.mul_nonneg (show 0 ≤ M + x by grind) (show 0 ≤ N + y by grind)
 have c := Rat.mul_nonneg (show 0 ≤ M - x by grind) (show 0 ≤ N + y by grind)
 have d := Rat.mul_nonneg (show 0 ≤ M + x by grind) (show 0 ≤ N - y by grind)
 constructor <;> grind
theorem Lp.bd {f : Qt → Qt} (h : Lp f) : ∃ B : Qt, 0 < B ∧ ∀ t, 0 ≤ t → t ≤ 1 → -B ≤ f t ∧ f t ≤ B := by
 obtain ⟨L, hL, h⟩ := h; refine ⟨(f 0).abs + L + 1, ?_, fun t h0 h1 => ?_⟩
 · have := Rat.abs_nonneg (x := f 0); grind
 · have := h 0 t (by grind) h0 h1
   have k : L * (t - 0) ≤ L * 1 := Rat.mul_le_mul_of_nonneg_left (by grind) hL
   rcases Rat.le_total (a := 0) (b := f 0) with q | q
   · rw [Rat.abs_of_nonneg q]; constructor <;> grind
   · rw [Rat.abs_of_nonpos q]; constructor <;> grind
theorem Lp.const (c : Qt) : Lp (fun _ => c) := ⟨0, by grind, fun s t _ _ _ => by constructor <;> grind⟩
theorem Lp.id : Lp (fun t => t) := ⟨1, by grind, fun s t _ _ _ => by constructor <;> grind⟩
theorem Lp.add {f g : Qt → Qt} (hf : Lp f) (hg : Lp g) : Lp (fun t => f t + g t) := by
 obtain ⟨L, hL, hf⟩ := hf; obtain ⟨M, hM, hg⟩ := hg; refine ⟨L + M, by grind, fun s t h1 h2 h3 => ?_⟩
 have a := hf s t h1 h2 h3; have b := hg s t h1 h2 h3
 constructor <;> grind
theorem Lp.mul {f g : Qt → Qt} (hf : Lp f) (hg : Lp g) : Lp (fun t => f t * g t) := by
 obtain ⟨B, hB, hf'⟩ := hf.bd; obtain ⟨C, hC, hg'⟩ := hg.bd; obtain ⟨L, hL, hf⟩ := hf; obtain ⟨M, hM, hg⟩ := hg; refine ⟨L * C + B * M, Rat.add_nonneg (Rat.mul_nonneg hL (by grind)) (Rat.mul_nonneg (by grind) hM), fun s t h1 h2 h3 => ?_⟩
 have a := prod_bd (hf s t h1 h2 h3) (hg' t (by grind) h3)
 have b := prod_bd (hf' s h1 (by grind)) (hg s t h1 h2 h3)
 have e : f t * g t - f s * g s = (f t - f s) * g t + f s * (g t - g s) := by grind
 rw [e]
 constructor <;> grind
theorem Lp.of {f g : Qt → Qt} (h : Lp f) (e : ∀ t, f t = g t) : Lp g := by rw [← funext e]; exact h
theorem Lp.smul {f : Qt → Qt} (c : Qt) (h : Lp f) : Lp (fun t => c * f t) := (Lp.const c).mul h
theorem Lp.neg {f : Qt → Qt} (h : Lp f) : Lp (fun t => -f t) := (h.smul (-1)).of (fun t => by grind)
theorem Lp.sub {f g : Qt → Qt} (hf : Lp f) (hg : Lp g) : Lp (fun t => f t - g t) := (hf.add hg.neg).of (fun t => by grind)
theorem Lp.pow (n : Nat) : Lp (fun t => t ^ n) := by
 induction n with
 | zero => exact (Lp.const 1).of (fun t => by rw [Rat.pow_zero])
 | succ n ih => exact (ih.mul Lp.id).of (fun t => by rw [Rat.pow_succ])
theorem small_step {L e : Qt} (hL : 0 ≤ L) (he : 0 < e) : ∃ d : Qt, 0 < d ∧ ∀ x, 0 ≤ x → x ≤ d → L * x ≤ e := by
 have hp : (0 : Qt) < L + 1 := by grind
 refine ⟨e / (L + 1), ?_, fun x h0 hx => ?_⟩
 · rw [Rat.lt_div_iff hp]; grind
 · have h1 : (L + 1) * (e / (L + 1)) = e := by rw [Rat.mul_comm, Rat.div_mul_cancel (by grind)]
   have h2 : (L + 1) * x ≤ (L + 1) * (e / (L + 1)) := Rat.mul_le_mul_of_nonneg_left hx (by grind)
   grind
def Sg (f : Qt → Qt) (a b : Qt) : Prop := (∀ t, a ≤ t → t ≤ b → 0 < f t) ∨ ∀ t, a ≤ t → t ≤ b → f t < 0
theorem Sg.eq {f : Qt → Qt} {a b : Qt} (h : Sg f a b) : ∀ s t, a ≤ s → s ≤ b → a ≤ t → t ≤ b → sgn (f s) = sgn (f t) := by
 intro s t h1 h2 h3 h4; rcases h with h | h
 · rw [sgn_pos (h s h1 h2), sgn_pos (h t h3 h4)]
 · rw [sgn_neg (h s h1 h2), sgn_neg (h t h3 h4)]
theorem Lp.split {f : Qt → Qt} (h : Lp f) {e : Qt} (he : 0 < e) : ∃ d : Qt, 0 < d ∧ ∀ a b, 0 ≤ a → a ≤ b → b ≤ 1 → b - a ≤ d → Sg f a b ∨ ∀ t, a ≤ t → t ≤ b → -e ≤ f t ∧ f t ≤ e := by
 obtain ⟨L, hL, h⟩ := h; have he2 : (0 : Qt) < e / 2 := by grind
 obtain ⟨d, hd, hs⟩ := small_step hL he2; refine ⟨d, hd, fun a b h0 h1 h2 h3 => ?_⟩
 have hk : ∀ t, a ≤ t → t ≤ b → -(e / 2) ≤ f t - f a ∧ f t - f a ≤ e / 2 := by
  intro t ht1 ht2; have := h a t h0 ht1 (by grind)
  have := hs (t - a) (by grind) (by grind)
  constructor <;> grind
 by_cases q : e / 2 < f a
 · left; left; intro t t1 t2; have := hk t t1 t2; grind
 · by_cases q' : f a < -(e / 2)
   · left; right; intro t t1 t2; have := hk t t1 t2; grind
   · right; intro t t1 t2; have := hk t t1 t2; constructor <;> grind
inductive Ch : List (Qt → Qt) → Prop
 | one : Ch [fun _ => 1]
 | two {f : Qt → Qt} : Lp f → Ch [f, fun _ => 1]
 | more {f g h H : Qt → Qt} {l : List (Qt → Qt)} {c d : Qt} : Lp f → Lp H → 0 < c → 0 < d → (∀ t, c * f t = H t * g t - d * h t) → Ch (g :: h :: l) → Ch (f :: g :: h :: l)
def var : List (Qt → Qt) → Qt → Int
 | f :: g :: l, t => far (sgn (f t)) (sgn (g t)) + var (g :: l) t
 | _, _ => 0
theorem Ch.lp {l : List (Qt → Qt)} (h : Ch l) : ∀ f ∈ l, Lp f := by
 induction h with
 | one => intro f hf; obtain rfl := List.mem_singleton.1 hf; exact Lp.const 1
 | two h =>
   intro g hg; rcases List.mem_cons.1 hg with rfl | hg
   · exact h
   · obtain rfl := List.mem_singleton.1 hg; exact Lp.const 1
 | more h _ _ _ _ _ ih =>
   intro g hg; rcases List.mem_cons.1 hg with rfl | hg
   · exact h
   · exact ih g hg
def Away (d x y : Qt) : Prop := d ≤ x ∨ x ≤ -d ∨ d ≤ y ∨ y ≤ -d
theorem Away.mono {d e x y : Qt} (h : Away d x y) (k : e ≤ d) : Away e x y := by unfold Away at *; grind
theorem min_pos {a b : Qt} (ha : 0 < a) (hb : 0 < b) : ∃ d : Qt, 0 < d ∧ d ≤ a ∧ d ≤ b := by
 rcases Rat.le_total (a := a) (b := b) with h | h
 · exact ⟨a, ha, Rat.le_refl, h⟩
 · exact ⟨b, hb, h, Rat.le_refl⟩
theorem Ch.away {l : List (Qt → Qt)} (h : Ch l) : ∀ f g m, l = f :: g :: m → ∃ d : Qt, 0 < d ∧ ∀ t, 0 ≤ t → t ≤ 1 → Away d (f t) (g t) := by
 induction h with
 | one => intro f g m e; cases e
 | two h =>
   intro f g m e; simp only [List.cons.injEq] at e; obtain ⟨rfl, rfl, -⟩ := e; exact ⟨1, by grind, fun t _ _ => .inr (.inr (.inl (by grind)))⟩
 | @more f g h H l c d hf hH hc hd he _ ih =>
   intro f' g' m e; simp only [List.cons.injEq] at e; obtain ⟨rfl, rfl, -⟩ := e; obtain ⟨x, hx, ih⟩ := ih g h l rfl; obtain ⟨M, hM, hb⟩ := hH.bd; have hdx := Rat.mul_pos hd hx; obtain ⟨y, hy, hs⟩ := small_step (Rat.le_of_lt hM) (show 0 < d * x / 2 by grind)
   obtain ⟨z, hz, hs2⟩ := small_step (Rat.le_of_lt hc) (show 0 < d * x / 4 by grind)
   obtain ⟨u, hu, h1, h2⟩ := min_pos hy hz; obtain ⟨v, hv, h3, h4⟩ := min_pos hu hx; refine ⟨v, hv, fun t t0 t1 => ?_⟩
   by_cases q : v ≤ g t
   · exact .inr (.inr (.inl q))
   · by_cases q' : g t ≤ -v
     · exact .inr (.inr (.inr q'))
     · have a := prod_bd (hb t t0 t1) (show -v ≤ g t ∧ g t ≤ v by constructor <;> grind)
       have b := hs v (by grind) (by grind)
       have c' := hs2 v (by grind) (by grind)
       have e := he t; rcases ih t t0 t1 with k | k | k | k
       · grind
       · grind
       · have k' : d * x ≤ d * h t := Rat.mul_le_mul_of_nonneg_left k (by grind)
         right; left
         have : c * f t ≤ c * -v := by grind
         exact Rat.le_of_mul_le_mul_left this hc
       · have k' : d * h t ≤ d * -x := Rat.mul_le_mul_of_nonneg_left k (by grind)
         left
         have : c * v ≤ c * f t := by grind
         exact Rat.le_of_mul_le_mul_left this hc
def hd : List (Qt → Qt) → Qt → Qt
 | f :: _ => f
 | [] => fun _ => 0
def Cst (l : List (Qt → Qt)) : Prop := ∃ d : Qt, 0 < d ∧ ∀ a b, 0 ≤ a → a ≤ b → b ≤ 1 → b - a ≤ d → Sg (hd l) a b → var l a = var l b
theorem far_mid : ∀ X ∈ [(-1 : Int), 0, 1], far 1 X + far X (-1) = 2 ∧ far (-1) X + far X 1 = 2 := by decide
theorem Ch.cst {l : List (Qt → Qt)} (h : Ch l) : Cst l ∧ Cst l.tail := by
 induction h with
 | one => exact ⟨⟨1, by grind, fun a b _ _ _ _ _ => rfl⟩, ⟨1, by grind, fun a b _ _ _ _ _ => rfl⟩⟩
 | two h =>
   refine ⟨⟨1, by grind, fun a b _ h1 _ _ k => ?_⟩, ⟨1, by grind, fun a b _ _ _ _ _ => rfl⟩⟩
   unfold var; have := k.eq a b (by grind) h1 h1 (by grind)
   unfold hd at this; rw [this]; rfl
 | @more f g h H l c d hf hH hc hd' he hch ih =>
   refine ⟨?_, ih.1⟩
   obtain ⟨⟨d1, p1, i1⟩, ⟨d2, p2, i2⟩⟩ := ih; obtain ⟨x, hx, haw⟩ := hch.away g h l rfl; have lg : Lp g := hch.lp g (by simp)
   have lh : Lp h := hch.lp h (by simp)
   obtain ⟨M, hM, hb⟩ := hH.bd; have hdx := Rat.mul_pos hd' hx; obtain ⟨y, hy, hs⟩ := small_step (Rat.le_of_lt hM) (show 0 < d * x / 2 by grind)
   obtain ⟨z, hz, hz1, hz2⟩ := min_pos hy (show 0 < x / 2 by grind)
   obtain ⟨d3, p3, s3⟩ := lg.split hz; obtain ⟨d4, p4, s4⟩ := lh.split (show 0 < x / 2 by grind)
   obtain ⟨q1, k1, m1, m2⟩ := min_pos p1 p2; obtain ⟨q2, k2, m3, m4⟩ := min_pos p3 p4; obtain ⟨q, k, m5, m6⟩ := min_pos k1 k2; refine ⟨q, k, fun a b h0 h1 h2 h3 hsg => ?_⟩
   have hsg' : Sg f a b := hsg; show far (sgn (f a)) (sgn (g a)) + var (g :: h :: l) a = far (sgn (f b)) (sgn (g b)) + var (g :: h :: l) b
   rcases s3 a b h0 h1 h2 (by grind) with w | w
   · rw [hsg'.eq a b (by grind) h1 h1 (by grind), w.eq a b (by grind) h1 h1 (by grind), i1 a b h0 h1 h2 (by grind) w]
   · have hh : Sg h a b := by
      rcases s4 a b h0 h1 h2 (by grind) with w' | w'
      · exact w'
      · have e1 := haw a h0 (by grind)
        have e2 := w a (by grind) h1
        have e3 := w' a (by grind) h1
        unfold Away at e1
        grind
     have hop : ∀ t, a ≤ t → t ≤ b → sgn (f t) = -sgn (h t) := by
      intro t t1 t2; have b1 := prod_bd (hb t (by grind) (by grind)) (w t t1 t2)
      have b2 := hs z (by grind) hz1
      have b3 := w t t1 t2; have b4 := he t; rcases haw t (by grind) (by grind) with k | k | k | k
      · grind
      · grind
      · have k' : d * x ≤ d * h t := Rat.mul_le_mul_of_nonneg_left k (by grind)
        rw [sgn_pos (show 0 < h t by grind), sgn_neg]
        exact (Rat.mul_neg_iff_of_pos_left hc).1 (by grind)
      · have k' : d * h t ≤ d * -x := Rat.mul_le_mul_of_nonneg_left k (by grind)
        rw [sgn_neg (show h t < 0 by grind), sgn_pos]
        · decide
        · exact (Rat.mul_pos_iff_of_pos_left hc).1 (by grind)
     have v2 : ∀ t, a ≤ t → t ≤ b → far (sgn (f t)) (sgn (g t)) + var (g :: h :: l) t = 2 + var (h :: l) t := by
      intro t t1 t2; show far (sgn (f t)) (sgn (g t)) + (far (sgn (g t)) (sgn (h t)) + var (h :: l) t) = _
      have m := far_mid _ (sgn_mem (g t)); rw [hop t t1 t2]; rcases hh with q | q
      · rw [sgn_pos (q t t1 t2)]; omega
      · rw [sgn_neg (q t t1 t2)]; simp only [Int.neg_neg]; omega
     have e : var (h :: l) a = var (h :: l) b := i2 a b h0 h1 h2 (by grind) hh
     rw [v2 a (by grind) h1, v2 b h1 (by grind), e]
theorem side_dec : ∀ X ∈ [(-1 : Int), 0, 1], ∀ Y ∈ [(-1 : Int), 0, 1], (X ≤ Y → far X 1 - far Y 1 = far Y X) ∧ (Y ≤ X → far X 1 - far Y 1 = -far Y X) ∧ (X ≤ Y → far X (-1) - far Y (-1) = -far Y X) ∧ (Y ≤ X → far X (-1) - far Y (-1) = far Y X) := by decide
theorem dl_right {a b : Cx} (ha : 0 < a.1) (hb : 0 < b.1) : far (sgn a.2) 1 - far (sgn b.2) 1 = dl a b := by
 unfold dl; have D := side_dec _ (sgn_mem a.2) _ (sgn_mem b.2); have C : crs a b = a.1 * b.2 - a.2 * b.1 := rfl; rcases sgn_cases a.2 with ⟨h1, e1⟩ | ⟨h1, e1⟩ | ⟨h1, e1⟩ <;> rcases sgn_cases b.2 with ⟨h2, e2⟩ | ⟨h2, e2⟩ | ⟨h2, e2⟩ <;> rw [e1, e2] at D ⊢
 · simp [far]
 · have := Rat.mul_pos h1 hb; rw [C, h2, sgn_neg (by grind)]; decide
 · have := Rat.mul_pos h1 hb; have := mul_neg_of ha h2; rw [C, sgn_neg (by grind)]; decide
 · have := Rat.mul_pos ha h2; rw [C, h1, sgn_pos (by grind)]; decide
 · simp [far]
 · have := mul_neg_of ha h2; rw [C, h1, sgn_neg (by grind)]; decide
 · have := Rat.mul_pos ha h2; have := mul_neg_of hb h1; rw [C, sgn_pos (by grind)]; decide
 · have := mul_neg_of hb h1; rw [C, h2, sgn_pos (by grind)]; decide
 · simp [far]
theorem crs_neg (a b : Cx) : crs (-a.1, -a.2) (-b.1, -b.2) = crs a b := by unfold crs; grind
theorem dl_left {a b : Cx} (ha : a.1 < 0) (hb : b.1 < 0) : far (sgn a.2) (-1) - far (sgn b.2) (-1) = dl a b := by
 have h := dl_right (a := (-a.1, -a.2)) (b := (-b.1, -b.2)) (by grind) (by grind)
 unfold dl at *; rw [crs_neg] at h; simp only [sgn_minus] at h; have f1 : ∀ x y : Int, far (-x) (-y) = far x y := by intro x y; unfold far; omega
 have f2 : ∀ x : Int, far (-x) 1 = far x (-1) := by intro x; unfold far; omega
 rw [f1, f2, f2] at h; exact h
theorem dl_up {a b : Cx} (h : sgn a.2 = sgn b.2) : dl a b = 0 := by
 unfold dl; rw [h]; simp [far]
theorem Ch.side {v u : Qt → Qt} {l : List (Qt → Qt)} (h : Ch (v :: u :: l)) : ∃ d : Qt, 0 < d ∧ ∀ a b, 0 ≤ a → a ≤ b → b ≤ 1 → b - a ≤ d → var (v :: u :: l) a - var (v :: u :: l) b = dl (u a, v a) (u b, v b) := by
 obtain ⟨⟨d1, p1, i1⟩, ⟨d2, p2, i2⟩⟩ := h.cst; obtain ⟨x, hx, haw⟩ := h.away v u l rfl; obtain ⟨d3, p3, s3⟩ := (h.lp v (by simp)).split (show 0 < x / 2 by grind)
 obtain ⟨d4, p4, s4⟩ := (h.lp u (by simp)).split (show 0 < x / 2 by grind)
 obtain ⟨q1, k1, m1, m2⟩ := min_pos p1 p2; obtain ⟨q2, k2, m3, m4⟩ := min_pos p3 p4; obtain ⟨q, k, m5, m6⟩ := min_pos k1 k2; refine ⟨q, k, fun a b h0 h1 h2 h3 => ?_⟩
 rcases s3 a b h0 h1 h2 (by grind) with w | w
 · rw [i1 a b h0 h1 h2 (by grind) w, dl_up (show sgn (u a, v a).2 = sgn (u b, v b).2 from w.eq a b (by grind) h1 h1 (by grind)), Int.sub_self]
 · rcases s4 a b h0 h1 h2 (by grind) with w' | w'
   · have e := i2 a b h0 h1 h2 (by grind) w'
     show far (sgn (v a)) (sgn (u a)) + var (u :: l) a - (far (sgn (v b)) (sgn (u b)) + var (u :: l) b) = _
     have e' : var (u :: l) a = var (u :: l) b := e; rw [e']; rcases w' with q | q
     · rw [← dl_right (a := (u a, v a)) (b := (u b, v b)) (q a (by grind) h1) (q b h1 (by grind)), sgn_pos (q a (by grind) h1), sgn_pos (q b h1 (by grind))]
       show _ = far (sgn (v a)) 1 - far (sgn (v b)) 1
       omega
     · rw [← dl_left (a := (u a, v a)) (b := (u b, v b)) (q a (by grind) h1) (q b h1 (by grind)), sgn_neg (q a (by grind) h1), sgn_neg (q b h1 (by grind))]
       show _ = far (sgn (v a)) (-1) - far (sgn (v b)) (-1)
       omega
   · have e1 := haw a h0 (by grind)
     have e2 := w a (by grind) h1
     have e3 := w' a (by grind) h1
     unfold Away at e1
     grind
set_option maxRecDepth 100000
def psum (f : Nat → Qt) : Nat → Qt → Qt
 | 0, _ => 0
 | n + 1, t => psum f n t + f n * t ^ n
theorem psum_congr {f g : Nat → Qt} {n : Nat} (h : ∀ i, i < n → f i = g i) (t : Qt) : psum f n t = psum g n t := by
 induction n with
 | zero => rfl
 | succ n ih => rw [psum, psum, ih (fun i hi => h i (by omega)), h n (by omega)]
theorem psum_add (f g : Nat → Qt) (n : Nat) (t : Qt) : psum (fun i => f i + g i) n t = psum f n t + psum g n t := by
 induction n with
 | zero => rw [psum, psum, psum]; grind
 | succ n ih => rw [psum, psum, psum, ih]; grind
theorem psum_mul (c : Qt) (f : Nat → Qt) (n : Nat) (t : Qt) : psum (fun i => c * f i) n t = c * psum f n t := by
 induction n with
 | zero => rw [psum, psum]; grind
 | succ n ih => rw [psum, psum, ih]; grind
theorem psum_more {f : Nat → Qt} {n m : Nat} (h : n ≤ m) (h0 : ∀ i, n ≤ i → f i = 0) (t : Qt) : psum f m t = psum f n t := by
 induction m with
 | zero =>
   obtain rfl : n = 0 := by omega
   rfl
 | succ m ih =>
   rcases Nat.lt_or_ge m n with k | k
   · obtain rfl : n = m + 1 := by omega
     rfl
   · rw [psum, ih k, h0 m k]; grind
theorem psum_shift (a : Nat) (f : Nat → Qt) (m : Nat) (t : Qt) : psum (fun i => if a ≤ i then f (i - a) else 0) (a + m) t = t ^ a * psum f m t := by
 induction m with
 | zero =>
   rw [psum, Nat.add_zero, psum_congr (g := fun _ => 0) (fun i hi => if_neg (by omega))]
   have : ∀ k, psum (fun _ => 0) k t = 0 := by intro k; induction k with
    | zero => rfl
    | succ k ih => rw [psum, ih]; grind
   rw [this]; grind
 | succ m ih =>
   rw [Nat.add_succ, psum, ih, psum, if_pos (by omega), show a + m - a = m by omega, show t ^ (a + m) = t ^ a * t ^ m by
    induction m with
    | zero => rw [Rat.pow_zero, Nat.add_zero]; grind
    | succ m ihm => rw [Nat.add_succ, Rat.pow_succ, Rat.pow_succ]; grind]
   grind
theorem Lp.psum (f : Nat → Qt) (n : Nat) : Lp (psum f n) := by
 induction n with
 | zero => exact (Lp.const 0).of (fun t => rfl)
 | succ n ih => exact (ih.add ((Lp.pow n).smul (f n))).of (fun t => rfl)
def cofI (l : List Int) (i : Nat) : Qt := ((l.getD i 0 : Int) : Qt)
def evI (l : List Int) (t : Qt) : Qt := psum (cofI l) l.length t
theorem cofI_out {l : List Int} {i : Nat} (h : l.length ≤ i) : cofI l i = 0 := by
 unfold cofI; rw [List.getD_eq_getElem?_getD, List.getElem?_eq_none h]; rfl
theorem evI_more {l : List Int} {n : Nat} (h : l.length ≤ n) (t : Qt) : psum (cofI l) n t = evI l t := psum_more h (fun i hi => cofI_out hi) t
theorem evI_nil (t : Qt) : evI [] t = 0 := rfl
theorem evI_lp (l : List Int) : Lp (evI l) := Lp.psum _ _
theorem evI_cut (l : List Int) (t : Qt) : evI (cutI l) t = evI l t := by
 rw [← evI_more (cutI_len l) t]; unfold evI; refine psum_congr (fun i hi => ?_) t
 clear t hi; unfold cofI
 induction l generalizing i with
 | nil => rfl
 | cons x l ih =>
   rw [cutI]
   split
   · rename_i h; rcases i with _ | i
     · rw [h.2]; rfl
     · rw [h.1] at ih; have := ih i; simp only [List.getD_cons_succ]; rw [← this]
       simp
   · rcases i with _ | i
     · rfl
     · simp only [List.getD_cons_succ]; exact ih i
theorem evI_map {l : List Int} {f : Int → Int} {c : Qt} (h : ∀ x, ((f x : Int) : Qt) = c * (x : Qt)) (t : Qt) : evI (l.map f) t = c * evI l t := by
 unfold evI; rw [← psum_mul, List.length_map]; refine psum_congr (fun i hi => ?_) t
 unfold cofI; rw [List.getD_eq_getElem?_getD, List.getElem?_map, List.getD_eq_getElem?_getD, List.getElem?_eq_getElem hi]; exact h _
theorem evI_neg (l : List Int) (t : Qt) : evI (l.map (fun x => -x)) t = -evI l t := by
 rw [evI_map (c := -1) (fun x => by rw [Rat.intCast_neg]; grind)]
 grind
theorem gcdI_fold (l : List Int) (g : Nat) : l.foldl (fun g x => Nat.gcd g x.natAbs) g ∣ g ∧ ∀ x ∈ l, l.foldl (fun g x => Nat.gcd g x.natAbs) g ∣ x.natAbs := by
 induction l generalizing g with
 | nil => exact ⟨Nat.dvd_refl _, fun x h => by cases h⟩
 | cons y l ih =>
   obtain ⟨h1, h2⟩ := ih (Nat.gcd g y.natAbs); refine ⟨Nat.dvd_trans h1 (Nat.gcd_dvd_left _ _), fun x hx => ?_⟩
   rcases List.mem_cons.1 hx with rfl | hx
   · exact Nat.dvd_trans h1 (Nat.gcd_dvd_right _ _)
   · exact h2 x hx
theorem gcdI_dvd {l : List Int} {x : Int} (h : x ∈ l) : ((gcdI l : Nat) : Int) ∣ x := Int.ofNat_dvd_left.2 ((gcdI_fold l 0).2 x h)
theorem evI_small (l : List Int) : ∃ g : Qt, 0 < g ∧ ∀ t, evI l t = g * evI (smallI l) t := by
 unfold smallI
 split
 · exact ⟨1, by grind, fun t => by grind⟩
 · rename_i h; have hg : (0 : Qt) < ((gcdI l : Nat) : Qt) := Rat.natCast_pos.2 (Nat.pos_of_ne_zero h); refine ⟨((gcdI l : Nat) : Qt), hg, fun t => ?_⟩
   unfold evI; rw [← psum_mul, List.length_map]; refine psum_congr (fun i hi => ?_) t
   unfold cofI; rw [List.getD_eq_getElem?_getD, List.getElem?_eq_getElem hi, List.getD_eq_getElem?_getD, List.getElem?_map, List.getElem?_eq_getElem hi]; show ((l[i] : Int) : Qt) = _ * (((l[i].tdiv (gcdI l : Int)) : Int) : Qt)
   obtain ⟨k, hk⟩ := gcdI_dvd (List.getElem_mem hi); rw [hk, Int.mul_tdiv_cancel_left _ (by omega)]
   rw [Rat.intCast_mul]; rfl
def Trim (l : List Int) : Prop := l = [] ∨ lastI l ≠ 0
theorem trim_cut (l : List Int) : Trim (cutI l) := by
 induction l with
 | nil => exact .inl rfl
 | cons x l ih =>
   rw [cutI]
   split
   · exact .inl rfl
   · rename_i h
     right
     rcases ih with e | e
     · rw [e]; intro k; exact h ⟨e, by simpa [lastI] using k⟩
     · unfold lastI at *; cases hc : cutI l with
       | nil => rw [hc] at e; simp at e
       | cons y m => rw [hc] at e; simpa using e
theorem trim_rem : ∀ (k : Nat) (r q : List Int), Trim r → Trim (remI k r q) := by
 intro k
 induction k with
 | zero => intro r q h; exact h
 | succ k ih =>
   intro r q h; rw [remI]
   split
   · exact ih _ q (trim_cut _)
   · exact h
theorem trim_map {l : List Int} {f : Int → Int} (h : Trim l) (hf : ∀ x ∈ l, x ≠ 0 → f x ≠ 0) : Trim (l.map f) := by
 rcases h with h | h
 · left; rw [h]; rfl
 · right
   unfold lastI at *; rw [List.length_map]; cases hl : l with
   | nil => rw [hl] at h; simp at h
   | cons x m =>
     have hi : l.length - 1 < l.length := by rw [hl]; simp
     rw [← hl, List.getD_eq_getElem?_getD, List.getElem?_map, List.getElem?_eq_getElem hi]; rw [List.getD_eq_getElem?_getD, List.getElem?_eq_getElem hi] at h; exact hf _ (List.getElem_mem hi) h
theorem trim_small {l : List Int} (h : Trim l) : Trim (smallI l) := by
 unfold smallI
 split
 · exact h
 · rename_i hg; refine trim_map h (fun x hx h0 e => ?_)
   obtain ⟨k, hk⟩ := gcdI_dvd hx; rw [hk, Int.mul_tdiv_cancel_left _ (by omega)] at e
   rw [e, Int.mul_zero] at hk; exact h0 hk
theorem trim_less {p q : List Int} (h : Trim p) : Trim (lessI p q) := by
 unfold lessI; exact trim_small (trim_map (trim_rem _ _ _ h) (fun x _ h0 => by omega))
theorem evI_next {r q : List Int} (hq : q ≠ []) (hlen : q.length ≤ r.length) (t : Qt) :
 evI (nextI r q) t = (((lastI q).natAbs : Nat) : Qt) * evI r t - ((topI r q : Int) : Qt) * (t ^ (r.length - q.length) * evI q t) := by
 have hq0 : 0 < q.length := List.length_pos_iff.2 hq
 have e1 : evI (nextI r q) t = psum (fun i => ((nxtI r q i : Int) : Qt)) (r.length - 1) t := by
  unfold evI; rw [nextI_len]; refine psum_congr (fun i hi => ?_) t
  unfold cofI nextI; rw [List.getD_eq_getElem?_getD, List.getElem?_map, List.getElem?_range hi]; rfl
 have e2 : psum (fun i => ((nxtI r q i : Int) : Qt)) (r.length - 1) t = psum (fun i => ((nxtI r q i : Int) : Qt)) r.length t := by
  rw [show r.length = (r.length - 1) + 1 by omega, psum, Nat.add_sub_cancel]
  have : nxtI r q (r.length - 1) = 0 := by
   unfold nxtI; rw [if_pos (by omega), show r.length - 1 - (r.length - q.length) = q.length - 1 by omega]
   show lastI r * _ - topI r q * lastI q = 0
   unfold topI
   split
   · rw [show ((lastI q).natAbs : Int) = -lastI q by omega]; grind
   · rw [show ((lastI q).natAbs : Int) = lastI q by omega]; grind
  rw [this]; show _ = _ + (0 : Qt) * _
  grind
 have e3 : ∀ i, ((nxtI r q i : Int) : Qt) = (((lastI q).natAbs : Nat) : Qt) * cofI r i + (-((topI r q : Int) : Qt)) * (if r.length - q.length ≤ i then cofI q (i - (r.length - q.length)) else 0) := by
  intro i; unfold nxtI cofI; rw [Rat.intCast_sub, Rat.intCast_mul]
  split
  · rw [Rat.intCast_mul]; show _ * (((lastI q).natAbs : Nat) : Qt) - _ = _
    grind
  · show _ * (((lastI q).natAbs : Nat) : Qt) - (0 : Qt) = _
    grind
 rw [e1, e2, psum_congr (fun i _ => e3 i), psum_add, psum_mul, psum_mul]
 have e4 : psum (fun i => if r.length - q.length ≤ i then cofI q (i - (r.length - q.length)) else 0) r.length t = t ^ (r.length - q.length) * evI q t := by
  have := psum_shift (r.length - q.length) (cofI q) q.length t; rw [show r.length - q.length + q.length = r.length by omega] at this
  exact this
 rw [e4]; show _ * evI r t + _ = _
 grind
theorem evI_rem {q : List Int} (hq : q ≠ []) (ht : Trim q) : ∀ (k : Nat) (r : List Int), ∃ (c : Qt) (H : Qt → Qt), 0 < c ∧ Lp H ∧ ∀ t, c * evI r t = H t * evI q t + evI (remI k r q) t := by
 have hl : (0 : Qt) < (((lastI q).natAbs : Nat) : Qt) := Rat.natCast_pos.2 (by have := ht.resolve_left hq; omega)
 intro k
 induction k with
 | zero => intro r; exact ⟨1, fun _ => 0, by grind, Lp.const 0, fun t => by rw [remI]; grind⟩
 | succ k ih =>
   intro r; rw [remI]; by_cases h : q.length ≤ r.length
   · rw [if_pos h]; obtain ⟨c, H, hc, hH, he⟩ := ih (cutI (nextI r q)); refine ⟨c * (((lastI q).natAbs : Nat) : Qt), fun t => H t + (c * ((topI r q : Int) : Qt)) * t ^ (r.length - q.length), Rat.mul_pos hc hl, hH.add ((Lp.pow _).smul _), fun t => ?_⟩
     have e := he t; rw [evI_cut, evI_next hq h] at e
     grind
   · rw [if_neg h]; exact ⟨1, fun _ => 0, by grind, Lp.const 0, fun t => by grind⟩
theorem evI_less {p q : List Int} (hq : q ≠ []) (ht : Trim q) : ∃ (c d : Qt) (H : Qt → Qt), 0 < c ∧ 0 < d ∧ Lp H ∧ ∀ t, c * evI p t = H t * evI q t - d * evI (lessI p q) t := by
 obtain ⟨c, H, hc, hH, he⟩ := evI_rem hq ht (p.length + 1) p; obtain ⟨g, hg, h⟩ := evI_small ((remI (p.length + 1) p q).map (fun x => -x))
 refine ⟨c, g, H, hc, hg, hH, fun t => ?_⟩
 rw [he t]; have := h t; rw [evI_neg] at this; unfold lessI
 grind
def Fac (d : Qt → Qt) : List (Qt → Qt) → List (List Int) → Prop
 | f :: K, p :: l => (∀ t, evI p t = f t * d t) ∧ Fac d K l
 | [], [] => True
 | _, _ => False
theorem chain_fac : ∀ (k : Nat) (p q : List Int), q.length ≤ k → Trim p → Trim q → ∃ (d : Qt → Qt) (K : List (Qt → Qt)), Lp d ∧ Ch K ∧ Fac d K (chainI k p q) ∧ ∀ t, evI (lastL (chainI k p q)) t = d t := by
 intro k
 induction k with
 | zero =>
   intro p q hk hp hq; exact ⟨evI p, [fun _ => 1], evI_lp p, .one, ⟨fun t => by grind, trivial⟩, fun t => rfl⟩
 | succ k ih =>
   intro p q hk hp hq; rw [chainI]; by_cases h : q = []
   · rw [if_pos h]; exact ⟨evI p, [fun _ => 1], evI_lp p, .one, ⟨fun t => by grind, trivial⟩, fun t => rfl⟩
   · rw [if_neg h]; have hl := lessI_len (p := p) h; obtain ⟨a, b, H, ha, hb, hH, hr⟩ := evI_less (p := p) h hq; have ea : a * (1 / a) = 1 := by rw [Rat.mul_comm, Rat.div_mul_cancel (by grind)]
     have down : ∀ {x y : Qt}, a * x = y → x = 1 / a * y := by
      intro x y e; rw [← e, ← Rat.mul_assoc, Rat.mul_comm (1 / a), ea]
      grind
     by_cases h1 : lessI p q = []
     · have hc : chainI k q (lessI p q) = [q] := by
        cases k with
        | zero => rfl
        | succ k => rw [chainI, if_pos h1]
       rw [hc]; rw [h1] at hr; refine ⟨evI q, [fun t => 1 / a * H t, fun _ => 1], evI_lp q, .two (hH.smul _), ⟨fun t => ?_, fun t => by grind, trivial⟩, fun t => rfl⟩
       have := down (hr t); rw [this, evI_nil]
       grind
     · have hl := lessI_len (p := p) h; obtain ⟨d, K, hd, hK, hf, he⟩ := ih q (lessI p q) (by omega) hq (trim_less hp)
       obtain ⟨j, rfl⟩ : ∃ j, k = j + 1 := ⟨k - 1, by have := List.length_pos_iff.2 h1; omega⟩
       obtain ⟨m, hm⟩ : ∃ m, chainI (j + 1) q (lessI p q) = q :: lessI p q :: m := by
        rw [chainI, if_neg h1]; cases j with
        | zero => exact ⟨[], rfl⟩
        | succ j =>
          rw [chainI]
          split
          · exact ⟨[], rfl⟩
          · exact ⟨_, rfl⟩
       rw [hm] at hf he ⊢
       match K, hK, hf with
       | [], hK, _ => cases hK
       | [g], _, hf => exact hf.2.elim
       | g :: h :: K, hK, hf =>
         refine ⟨d, (fun t => 1 / a * (H t * g t - b * h t)) :: g :: h :: K, hd, ?_, ⟨fun t => ?_, hf⟩, fun t => ?_⟩
         · refine Ch.more (c := a) (d := b) (((hH.mul (hK.lp g (by simp))).sub ((hK.lp h (by simp)).smul b)).smul _) hH ha hb (fun t => ?_) hK
           rw [← Rat.mul_assoc, ea]
           grind
         · have := down (hr t); rw [this, hf.1 t, hf.2.1 t]
           grind
         · rw [← he t]; unfold lastL
           simp
theorem evI_cons (x : Int) (l : List Int) (t : Qt) : evI (x :: l) t = (x : Qt) + t * evI l t := by
 unfold evI; rw [List.length_cons]; generalize l.length = n
 induction n with
 | zero =>
   show (0 : Qt) + cofI (x :: l) 0 * t ^ 0 = (x : Qt) + t * 0
   rw [Rat.pow_zero]; show (0 : Qt) + (x : Qt) * 1 = _
   grind
 | succ n ih =>
   rw [psum, ih, psum, Rat.pow_succ, show cofI (x :: l) (n + 1) = cofI l n from rfl]
   grind
theorem evI_zero (x : Int) (l : List Int) : evI (x :: l) 0 = (x : Qt) := by rw [evI_cons]; grind
theorem evI_one (l : List Int) : evI l 1 = ((sumI l : Int) : Qt) := by
 have h : ∀ (l : List Int) (a : Int), l.foldl (· + ·) a = a + sumI l := by
  intro l
  induction l with
  | nil => intro a; exact (Int.add_zero a).symm
  | cons x l ih =>
    intro a; show l.foldl (· + ·) (a + x) = a + l.foldl (· + ·) (0 + x)
    rw [ih, ih]; omega
 induction l with
 | nil => rfl
 | cons x l ih =>
   rw [evI_cons, ih]; show _ = ((l.foldl (· + ·) (0 + x) : Int) : Qt)
   rw [h, Rat.intCast_add, Rat.intCast_add]; show _ = (0 : Qt) + _ + _
   grind
theorem sgn_int (n : Int) : sgn (n : Qt) = n.sign := by
 rcases Int.lt_trichotomy n 0 with h | h | h
 · rw [Int.sign_eq_neg_one_of_neg h, sgn_neg (Rat.intCast_neg_iff.2 h)]
 · rw [h]; rfl
 · rw [Int.sign_eq_one_of_pos h, sgn_pos (Rat.intCast_pos.2 h)]
theorem ends_sgn (l : List Int) : endsI l = (sgn (evI l 0), sgn (evI l 1)) := by
 unfold endsI
 split
 · rename_i h; rw [h]; rfl
 · rw [evI_one, sgn_int]; cases l with
   | nil => rename_i h; exact absurd rfl h
   | cons x l => rw [evI_zero, sgn_int]; rfl
theorem turnN_cons (p : List Int) (l : List (List Int)) (j : Nat) : turnN (p :: l) (j + 1) = pairT p (l.getD 0 []) + turnN l j := by
 induction j with
 | zero => rw [turnN, turnN, turnN]; simp
 | succ j ih => rw [turnN, ih, turnN]; simp only [List.getD_cons_succ]; omega
theorem turn_cons (p q : List Int) (l : List (List Int)) : turnI (p :: q :: l) = pairT p q + turnI (q :: l) := by
 unfold turnI; simp only [List.length_cons, Nat.add_sub_cancel]; rw [turnN_cons]; rfl
theorem far_sgn {x y d : Qt} (h : d ≠ 0) : far (sgn (x * d)) (sgn (y * d)) = far (sgn x) (sgn y) := by
 rw [sgn_mul, sgn_mul]; rcases sgn_cases d with ⟨-, e⟩ | ⟨e, -⟩ | ⟨-, e⟩
 · rw [e, Int.mul_one, Int.mul_one]
 · exact absurd e h
 · rw [e]; unfold far; omega
theorem turn_var {d : Qt → Qt} (h0 : d 0 ≠ 0) (h1 : d 1 ≠ 0) : ∀ (K : List (Qt → Qt)) (l : List (List Int)), Fac d K l → turnI l = var K 0 - var K 1 := by
 intro K
 induction K with
 | nil =>
   intro l h; cases l with
   | nil => rfl
   | cons p l => exact h.elim
 | cons f K ih =>
   intro l h
   match K, l, h, ih with
   | _, [], h, _ => exact h.elim
   | [], [p], h, _ => rfl
   | [], p :: q :: l, h, _ => exact h.2.elim
   | g :: K, [p], h, _ => exact h.2.elim
   | g :: K, p :: q :: l, h, ih =>
     rw [turn_cons, ih _ h.2, var, var]; unfold pairT; rw [ends_sgn, ends_sgn, h.1 0, h.1 1, h.2.1 0, h.2.1 1]; have a : absd (sgn (f 0 * d 0)) (sgn (g 0 * d 0)) = far (sgn (f 0)) (sgn (g 0)) := far_sgn h0; have b : absd (sgn (f 1 * d 1)) (sgn (g 1 * d 1)) = far (sgn (f 1)) (sgn (g 1)) := far_sgn h1; rw [a, b]; omega
theorem archi (C : Qt) {e : Qt} (he : 0 < e) : ∃ N : Nat, 1 ≤ N ∧ ∀ n : Nat, N ≤ n → C < e * (n : Qt) := by
 refine ⟨(C / e).ceil.toNat + 1, by omega, fun n hn => ?_⟩
 have h1 : C / e ≤ ((C / e).ceil : Qt) := Rat.le_ceil; have h2 : ((C / e).ceil : Qt) < ((n : Int) : Qt) := Rat.intCast_lt_intCast.2 (by omega)
 have h3 : C / e < ((n : Int) : Qt) := by grind
 rw [Rat.div_lt_iff' he] at h3; exact h3
def D2 (f g : Qt → Qt) : Prop := ∃ B : Qt, 0 ≤ B ∧ ∀ s t, 0 ≤ s → s ≤ t → t ≤ 1 → -(B * ((t - s) * (t - s))) ≤ f t - f s - g s * (t - s) ∧ f t - f s - g s * (t - s) ≤ B * ((t - s) * (t - s))
theorem D2.const (c : Qt) : D2 (fun _ => c) (fun _ => 0) := ⟨0, by grind, fun s t _ _ _ => by constructor <;> grind⟩
theorem D2.id : D2 (fun t => t) (fun _ => 1) := ⟨0, by grind, fun s t _ _ _ => by constructor <;> grind⟩
theorem D2.add {f g f' g' : Qt → Qt} (hf : D2 f f') (hg : D2 g g') : D2 (fun t => f t + g t) (fun t => f' t + g' t) := by
 obtain ⟨L, hL, hf⟩ := hf; obtain ⟨M, hM, hg⟩ := hg; refine ⟨L + M, by grind, fun s t h1 h2 h3 => ?_⟩
 have a := hf s t h1 h2 h3; have b := hg s t h1 h2 h3
 constructor <;> grind
theorem D2.mul {f g f' g' : Qt → Qt} (lf : Lp f) (lg : Lp g) (hf : D2 f f') (hg : D2 g g') : D2 (fun t => f t * g t) (fun t => f' t * g t + f t * g' t) := by
 obtain ⟨A, hA, bf⟩ := lf.bd; obtain ⟨B, hB, bg⟩ := lg.bd; obtain ⟨L, hL, lf⟩ := lf; obtain ⟨M, hM, lg⟩ := lg; obtain ⟨C, hC, hf⟩ := hf; obtain ⟨E, hE, hg⟩ := hg; refine ⟨C * B + A * E + L * M, ?_, fun s t h1 h2 h3 => ?_⟩
 · have := Rat.mul_nonneg hC (Rat.le_of_lt hB); have := Rat.mul_nonneg (Rat.le_of_lt hA) hE; have := Rat.mul_nonneg hL hM; grind
 · have a := prod_bd (hf s t h1 h2 h3) (bg s h1 (by grind))
   have b := prod_bd (bf s h1 (by grind)) (hg s t h1 h2 h3)
   have c := prod_bd (lf s t h1 h2 h3) (lg s t h1 h2 h3); have e : f t * g t - f s * g s - (f' s * g s + f s * g' s) * (t - s) = (f t - f s - f' s * (t - s)) * g s + f s * (g t - g s - g' s * (t - s)) + (f t - f s) * (g t - g s) := by grind
   rw [e]
   constructor <;> grind
theorem D2.of {f g f' g' : Qt → Qt} (h : D2 f f') (e : ∀ t, f t = g t) (e' : ∀ t, f' t = g' t) : D2 g g' := by rw [← funext e, ← funext e']; exact h
theorem D2.smul {f f' : Qt → Qt} (c : Qt) (lf : Lp f) (h : D2 f f') : D2 (fun t => c * f t) (fun t => c * f' t) := ((D2.const c).mul (Lp.const c) lf h).of (fun t => rfl) (fun t => by grind)
theorem D2.pow (n : Nat) : D2 (fun t => t ^ n) (fun t => (n : Qt) * t ^ (n - 1)) := by
 induction n with
 | zero => exact (D2.const 1).of (fun t => by rw [Rat.pow_zero]) (fun t => by show (0 : Qt) = (0 : Qt) * _; grind)
 | succ n ih =>
   refine (ih.mul (Lp.pow n) Lp.id D2.id).of (fun t => by rw [Rat.pow_succ]) (fun t => ?_)
   rw [Nat.add_sub_cancel]; rcases n with _ | n
   · show (0 : Qt) * _ * t + t ^ 0 * 1 = (1 : Qt) * t ^ 0
     grind
   · rw [Nat.add_sub_cancel, Rat.pow_succ, show ((n + 1 + 1 : Nat) : Qt) = ((n + 1 : Nat) : Qt) + 1 by rw [Rat.natCast_add]; rfl]
     grind
def dps (f : Nat → Qt) : Nat → Qt → Qt
 | 0, _ => 0
 | n + 1, t => dps f n t + f n * ((n : Qt) * t ^ (n - 1))
theorem D2.psum (f : Nat → Qt) (n : Nat) : D2 (psum f n) (dps f n) := by
 induction n with
 | zero => exact (D2.const 0).of (fun t => rfl) (fun t => rfl)
 | succ n ih => exact (ih.add ((D2.pow n).smul (f n) (Lp.pow n))).of (fun t => rfl) (fun t => rfl)
theorem dps_shift (f : Nat → Qt) (n : Nat) (t : Qt) : dps f (n + 1) t = psum (fun i => f (i + 1) * ((i + 1 : Nat) : Qt)) n t := by
 induction n with
 | zero =>
   show (0 : Qt) + f 0 * ((0 : Qt) * t ^ (0 - 1)) = 0
   grind
 | succ n ih =>
   rw [dps, ih, psum, Nat.add_sub_cancel]
   grind
theorem evI_slope (l : List Int) : D2 (evI l) (evI (slopeI l)) := by
 cases l with
 | nil => exact (D2.const 0).of (fun t => rfl) (fun t => rfl)
 | cons x l =>
   refine (D2.psum (cofI (x :: l)) (x :: l).length).of (fun t => rfl) (fun t => ?_)
   rw [List.length_cons, dps_shift]; unfold evI slopeI slopeN; rw [List.length_map, List.length_range, List.length_cons, Nat.add_sub_cancel]; refine psum_congr (fun i hi => ?_) t
   show _ = cofI _ i
   unfold cofI; rw [List.getD_eq_getElem?_getD (l := List.map _ _), List.getElem?_map, List.getElem?_range hi]; show _ = (((x :: l).getD (i + 1) 0 * ((i + 1 : Nat) : Int) : Int) : Qt)
   rw [Rat.intCast_mul]; rfl
theorem D2.grid {F G : Qt → Qt} {B x h : Qt} (hF : ∀ s t, 0 ≤ s → s ≤ t → t ≤ 1 → -(B * ((t - s) * (t - s))) ≤ F t - F s - G s * (t - s) ∧ F t - F s - G s * (t - s) ≤ B * ((t - s) * (t - s))) (h0 : 0 ≤ x) (hh : 0 ≤ h) :
 ∀ j : Nat, x + (j : Qt) * h ≤ 1 → (∀ i, i < j → 0 ≤ G (x + (i : Qt) * h)) → F x - (j : Qt) * (B * (h * h)) ≤ F (x + (j : Qt) * h) := by
 intro j
 induction j with
 | zero =>
   intro _ _; show F x - (0 : Qt) * _ ≤ F (x + (0 : Qt) * h)
   have e : x + (0 : Qt) * h = x := by grind
   rw [e]; grind
 | succ j ih =>
   intro h1 hg; have e : ((j + 1 : Nat) : Qt) = (j : Qt) + 1 := by rw [Rat.natCast_add]; rfl
   rw [e] at h1 ⊢; have hj : 0 ≤ (j : Qt) * h := Rat.mul_nonneg Rat.natCast_nonneg hh; have a := ih (by grind) (fun i hi => hg i (by omega))
   have b := hF (x + (j : Qt) * h) (x + ((j : Qt) + 1) * h) (by grind) (by grind) h1
   have c := hg j (by omega)
   have d : x + ((j : Qt) + 1) * h - (x + (j : Qt) * h) = h := by grind
   rw [d] at b; have k := Rat.mul_nonneg c hh
   grind
theorem nat_step {x y : Qt} {N : Nat} (hN : 1 ≤ N) (h : x ≤ y) : ∃ d : Qt, 0 ≤ d ∧ (N : Qt) * d = y - x := by
 have hp : (0 : Qt) < (N : Qt) := Rat.natCast_pos.2 (by omega)
 refine ⟨(y - x) / (N : Qt), ?_, by rw [Rat.mul_comm, Rat.div_mul_cancel (by grind)]⟩
 have := Rat.div_lt_iff hp (a := y - x) (c := 0); by_cases k : 0 ≤ (y - x) / (N : Qt)
 · exact k
 · have := this.1 (by grind); grind
theorem D2.mono {F G : Qt → Qt} (hF : D2 F G) {x y : Qt} (h0 : 0 ≤ x) (h1 : x ≤ y) (h2 : y ≤ 1) (hG : ∀ t, x ≤ t → t ≤ y → 0 ≤ G t) : F x ≤ F y := by
 obtain ⟨B, hB, hF⟩ := hF; by_cases k : F x ≤ F y
 · exact k
 · exfalso
   obtain ⟨N, hN, ha⟩ := archi B (show 0 < F x - F y by grind)
   have ha := ha N (Nat.le_refl _); obtain ⟨d, hd, e⟩ := nat_step hN h1; have hp : (1 : Qt) ≤ (N : Qt) := Rat.natCast_le_natCast.2 hN
   have g := D2.grid hF h0 hd N (by grind) (fun i hi => by
    have hi' : (i : Qt) ≤ (N : Qt) := Rat.natCast_le_natCast.2 (by omega)
    have := Rat.mul_le_mul_of_nonneg_right hi' hd; have := Rat.mul_nonneg (a := (i : Qt)) Rat.natCast_nonneg hd; exact hG _ (by grind) (by grind))
   rw [show x + (N : Qt) * d = y by grind] at g
   -- N B d d = B d (y - x) ≤ B d, and N B d ≤ B
   have e1 : (N : Qt) * (B * (d * d)) = B * d * (y - x) := by rw [← e]; grind
   have hBd : 0 ≤ B * d := Rat.mul_nonneg hB hd; have e2 : B * d * (y - x) ≤ B * d * 1 := Rat.mul_le_mul_of_nonneg_left (by grind) hBd
   have e3 : (N : Qt) * (B * d) ≤ B := by
    have : (N : Qt) * (B * d) = B * (y - x) := by rw [← e]; grind
    rw [this]; have := Rat.mul_le_mul_of_nonneg_left (show y - x ≤ 1 by grind) hB
    grind
   have e4 : (F x - F y) * (N : Qt) ≤ (B * d) * (N : Qt) := Rat.mul_le_mul_of_nonneg_right (by grind) (by grind)
   grind
theorem least {P : Nat → Prop} {n : Nat} (h : P n) : ∃ j, j ≤ n ∧ P j ∧ ∀ i, i < j → ¬ P i := by
 induction n using Nat.strongRecOn with
 | _ n ih =>
   by_cases k : ∃ i, i < n ∧ P i
   · obtain ⟨i, hi, hp⟩ := k; obtain ⟨j, h1, h2, h3⟩ := ih i hi hp; exact ⟨j, by omega, h2, h3⟩
   · exact ⟨n, Nat.le_refl _, h, fun i hi hp => k ⟨i, hi, hp⟩⟩
theorem no_cross {f g d l l' : Qt → Qt} (lf : Lp f) (ld : Lp d) (ll : Lp l) (hl : D2 l l') (e : ∀ t, l t = f t * d t) (e' : ∀ t, l' t = g t * d t) {a b : Qt} (h0 : 0 ≤ a) (h1 : a ≤ b) (h2 : b ≤ 1)
 (hfa : 0 < f a) (hfb : f b ≤ 0) (hg : ∀ t, a ≤ t → t ≤ b → 0 < g t) (hla : l a ≠ 0) : False := by
 obtain ⟨L, hL, lf⟩ := lf; obtain ⟨D, hD, bd⟩ := ld.bd; have hF := hl.mul ll ll hl; obtain ⟨B, hB, hF⟩ := hF; have hsq : 0 < l a * l a := sq_pos hla; obtain ⟨N, hN, ha⟩ := archi (B + L * D * (L * D)) hsq; have ha := ha N (Nat.le_refl _); obtain ⟨h, hh, eh⟩ := nat_step hN h1; have hp : (1 : Qt) ≤ (N : Qt) := Rat.natCast_le_natCast.2 hN
 have hx : ∀ i : Nat, i ≤ N → a ≤ a + (i : Qt) * h ∧ a + (i : Qt) * h ≤ b := by
  intro i hi; have hi' : (i : Qt) ≤ (N : Qt) := Rat.natCast_le_natCast.2 hi; have := Rat.mul_le_mul_of_nonneg_right hi' hh; have := Rat.mul_nonneg (a := (i : Qt)) Rat.natCast_nonneg hh
  constructor <;> grind
 obtain ⟨j, hj1, hj2, hj3⟩ := least (P := fun i => f (a + (i : Qt) * h) ≤ 0) (n := N) (by rw [show a + (N : Qt) * h = b by grind]; exact hfb)
 rcases j with _ | j
 · have e0 : a + ((0 : Nat) : Qt) * h = a := by show a + (0 : Qt) * h = a; grind
   rw [e0] at hj2
   grind
 · have ej : ((j + 1 : Nat) : Qt) = (j : Qt) + 1 := by rw [Rat.natCast_add]; rfl
   rw [ej] at hj2; have hjx := hx j (by omega)
   have hjy := hx (j + 1) hj1; rw [ej] at hjy
   have g := D2.grid hF h0 hh j (by grind) (fun i hi => by
    have p1 := hx i (by omega)
    have p2 := hj3 i (by omega)
    have p3 := hg _ p1.1 p1.2; rw [e, e']; have q := Rat.mul_nonneg (Rat.le_of_lt (Rat.mul_pos (show 0 < f (a + (i : Qt) * h) by grind) p3)) (sq_nonneg (d (a + (i : Qt) * h)))
    grind)
   have fj := hj3 j (by omega)
   have s1 := lf (a + (j : Qt) * h) (a + ((j : Qt) + 1) * h) (by grind) (by grind) (by grind)
   have s2 : a + ((j : Qt) + 1) * h - (a + (j : Qt) * h) = h := by grind
   rw [s2] at s1; have s3 := prod_bd (show -(L * h) ≤ f (a + (j : Qt) * h) ∧ f (a + (j : Qt) * h) ≤ L * h by have := Rat.mul_nonneg hL hh; constructor <;> grind) (bd (a + (j : Qt) * h) (by grind) (by grind))
   have s4 := prod_bd s3 s3; rw [← e] at s4
   -- l² at the place is at most (L h D)²; h ≤ 1, N h ≤ 1
   have hj' : (j : Qt) ≤ (N : Qt) := Rat.natCast_le_natCast.2 (by omega)
   have hh1 : h ≤ 1 := by
    have := Rat.mul_le_mul_of_nonneg_right hp hh
    grind
   have t1 : (j : Qt) * (B * (h * h)) ≤ (N : Qt) * (B * (h * h)) := Rat.mul_le_mul_of_nonneg_right hj' (Rat.mul_nonneg hB (sq_nonneg h)); have t2 : (N : Qt) * (B * (h * h)) = B * h * (b - a) := by rw [← eh]; grind
   have hBh : 0 ≤ B * h := Rat.mul_nonneg hB hh; have t3 : B * h * (b - a) ≤ B * h * 1 := Rat.mul_le_mul_of_nonneg_left (by grind) hBh
   have t4 : L * h * D * (L * h * D) ≤ L * D * (L * D) * h := by
    have k : 0 ≤ L * D * (L * D) * h := Rat.mul_nonneg (sq_nonneg _) hh; have := Rat.mul_le_mul_of_nonneg_left hh1 k
    grind
   have t5 : l a * l a ≤ (B + L * D * (L * D)) * h := by grind
   have t6 : (N : Qt) * (l a * l a) ≤ (N : Qt) * ((B + L * D * (L * D)) * h) := Rat.mul_le_mul_of_nonneg_left t5 (by grind)
   have t7 : (N : Qt) * ((B + L * D * (L * D)) * h) = (B + L * D * (L * D)) * (b - a) := by rw [← eh]; grind
   have t8 : (B + L * D * (L * D)) * (b - a) ≤ (B + L * D * (L * D)) * 1 := Rat.mul_le_mul_of_nonneg_left (by grind) (Rat.add_nonneg hB (sq_nonneg _))
   grind
def Pn : Nat → (Qt → Qt) → Prop
 | 0, f => ∀ t, f t = 0
 | n + 1, f => ∃ c g, Pn n g ∧ ∀ t, f t = c + t * g t
theorem Pn.addmul {n : Nat} {f g : Qt → Qt} (a : Qt) (hf : Pn n f) (hg : Pn n g) : Pn n (fun t => f t + a * g t) := by
 induction n generalizing f g with
 | zero => intro t; show f t + a * g t = 0; rw [hf t, hg t]; grind
 | succ n ih =>
   obtain ⟨c, f', h1, h2⟩ := hf; obtain ⟨d, g', k1, k2⟩ := hg; exact ⟨c + a * d, _, ih h1 k1, fun t => by show f t + a * g t = _; rw [h2, k2]; grind⟩
theorem Pn.up {n : Nat} {f : Qt → Qt} (hf : Pn n f) : Pn (n + 1) f := by
 induction n generalizing f with
 | zero => exact ⟨0, f, hf, fun t => by rw [hf t]; grind⟩
 | succ n ih =>
   obtain ⟨c, g, h1, h2⟩ := hf; exact ⟨c, g, ih h1, h2⟩
theorem Pn.div {n : Nat} {f : Qt → Qt} (a : Qt) (hf : Pn (n + 1) f) : ∃ g, Pn n g ∧ ∀ t, f t = f a + (t - a) * g t := by
 induction n generalizing f with
 | zero =>
   obtain ⟨c, g, h1, h2⟩ := hf; exact ⟨g, h1, fun t => by rw [h2, h2 a, h1 t, h1 a]; grind⟩
 | succ n ih =>
   obtain ⟨c, g, h1, h2⟩ := hf; obtain ⟨q, k1, k2⟩ := ih h1; refine ⟨fun t => g t + a * q t, h1.addmul a k1.up, fun t => ?_⟩
   rw [h2, h2 a, k2 t]
   grind
theorem Pn.zeros {n : Nat} {f : Qt → Qt} (hf : Pn n f) (x : Nat → Qt) (hx : ∀ i j, i < j → j < n → x i ≠ x j) (h : ∀ i, i < n → f (x i) = 0) : ∀ t, f t = 0 := by
 induction n generalizing f with
 | zero => exact hf
 | succ n ih =>
   obtain ⟨g, h1, h2⟩ := hf.div (x n)
   have hg := ih h1 (fun i j hi hj => hx i j hi (by omega)) (fun i hi => by
    have a := h2 (x i); rw [h i (by omega), h n (by omega)] at a
    have b := hx i n hi (by omega)
    have : (x i - x n) * g (x i) = 0 := by grind
    rcases Rat.mul_eq_zero.1 this with k | k
    · exact absurd (show x i = x n by grind) b
    · exact k)
   intro t; rw [h2 t, h n (by omega), hg t]
   grind
theorem evI_pn (l : List Int) : Pn l.length (evI l) := by
 induction l with
 | nil => exact fun t => rfl
 | cons x l ih => exact ⟨(x : Qt), evI l, ih, fun t => evI_cons x l t⟩
theorem nonroot {l : List Int} {z : Qt} (hz : evI l z ≠ 0) {x y : Qt} (h : x < y) : ∃ s, x ≤ s ∧ s ≤ y ∧ evI l s ≠ 0 := by
 by_cases k : ∃ s, x ≤ s ∧ s ≤ y ∧ evI l s ≠ 0
 · exact k
 · exfalso
   have k' : ∀ s, x ≤ s → s ≤ y → evI l s = 0 := fun s h1 h2 => Classical.byContradiction fun h3 => k ⟨s, h1, h2, h3⟩
   obtain ⟨d, hd, e⟩ := nat_step (N := l.length + 1) (by omega) (Rat.le_of_lt h)
   have hd0 : d ≠ 0 := by rintro rfl; grind
   refine hz (Pn.zeros (evI_pn l) (fun i => x + (i : Qt) * d) (fun i j hij hj he => ?_) (fun i hi => ?_) z)
   · have h1 : ((j : Qt) - (i : Qt)) * d = 0 := by grind
     rcases Rat.mul_eq_zero.1 h1 with q | q
     · have : (i : Qt) < (j : Qt) := Rat.natCast_lt_natCast.2 hij
       grind
     · exact hd0 q
   · have hi' : (i : Qt) ≤ ((l.length + 1 : Nat) : Qt) := Rat.natCast_le_natCast.2 (by omega)
     have := Rat.mul_le_mul_of_nonneg_right hi' hd; have := Rat.mul_nonneg (a := (i : Qt)) Rat.natCast_nonneg hd; exact k' _ (by grind) (by grind)
end Go.Proofs.YthjeejnggpjnjaaGreatDoor
