/- A part: FC, FD. -/
import Derived.Test.YthjeejnggpjnjaaGreatDoorZP04
set_option linter.unusedSimpArgs false
set_option linter.unusedVariables false
set_option maxRecDepth 100000
set_option maxHeartbeats 16000000
set_option synthInstance.maxHeartbeats 2000000
set_option synthInstance.maxSize 100000
namespace Go.Proofs.YthjeejnggpjnjaaGreatDoor
open Go.RowKit
set_option maxRecDepth 100000
theorem var_piece {f g d l l' : Qt → Qt} {K : List (Qt → Qt)} (hK : Ch (f :: g :: K)) (ld : Lp d) (ll : Lp l) (hl : D2 l l') (e : ∀ t, l t = f t * d t) (e' : ∀ t, l' t = g t * d t) :
 ∃ h : Qt, 0 < h ∧ ∀ a b, 0 ≤ a → a ≤ b → b ≤ 1 → b - a ≤ h → l a ≠ 0 → l b ≠ 0 → 0 ≤ var (f :: g :: K) a - var (f :: g :: K) b ∧ (var (f :: g :: K) a = var (f :: g :: K) b → sgn (f a) = sgn (f b)) := by
 obtain ⟨⟨d1, p1, i1⟩, ⟨d2, p2, i2⟩⟩ := hK.cst; obtain ⟨x, hx, haw⟩ := hK.away f g K rfl; have lf := hK.lp f (by simp)
 have lg := hK.lp g (by simp)
 obtain ⟨d3, p3, s3⟩ := lf.split (show 0 < x / 2 by grind)
 obtain ⟨d4, p4, s4⟩ := lg.split (show 0 < x / 2 by grind)
 obtain ⟨q1, k1, m1, m2⟩ := min_pos p1 p2; obtain ⟨q2, k2, m3, m4⟩ := min_pos p3 p4; obtain ⟨q, k, m5, m6⟩ := min_pos k1 k2; refine ⟨q, k, fun a b h0 h1 h2 h3 ha hb => ?_⟩
 rcases s3 a b h0 h1 h2 (by grind) with w | w
 · exact ⟨by rw [i1 a b h0 h1 h2 (by grind) w]; omega, fun _ => w.eq a b (by grind) h1 h1 (by grind)⟩
 · rcases s4 a b h0 h1 h2 (by grind) with w' | w'
   · have e2 : var (g :: K) a = var (g :: K) b := i2 a b h0 h1 h2 (by grind) w'
     have fa : f a ≠ 0 := fun h => ha (by rw [e, h, Rat.zero_mul])
     have fb : f b ≠ 0 := fun h => hb (by rw [e, h, Rat.zero_mul])
     have v : ∀ t, var (f :: g :: K) t = far (sgn (f t)) (sgn (g t)) + var (g :: K) t := fun t => rfl
     rw [v, v, e2]; rcases w' with q | q
     · rw [sgn_pos (q a (by grind) h1), sgn_pos (q b h1 (by grind))]
       rcases sgn_cases (f a) with ⟨h5, e5⟩ | ⟨h5, e5⟩ | ⟨h5, e5⟩ <;> rcases sgn_cases (f b) with ⟨h6, e6⟩ | ⟨h6, e6⟩ | ⟨h6, e6⟩ <;> rw [e5, e6]
       · exact ⟨by unfold far; omega, fun _ => rfl⟩
       · exact absurd h6 fb
       · exact (no_cross lf ld ll hl e e' h0 h1 h2 h5 (by grind) (fun t t1 t2 => q t t1 t2) ha).elim
       · exact absurd h5 fa
       · exact absurd h5 fa
       · exact absurd h5 fa
       · exact ⟨by unfold far; omega, fun h => by unfold far at h; omega⟩
       · exact absurd h6 fb
       · exact ⟨by unfold far; omega, fun _ => rfl⟩
     · rw [sgn_neg (q a (by grind) h1), sgn_neg (q b h1 (by grind))]
       rcases sgn_cases (f a) with ⟨h5, e5⟩ | ⟨h5, e5⟩ | ⟨h5, e5⟩ <;> rcases sgn_cases (f b) with ⟨h6, e6⟩ | ⟨h6, e6⟩ | ⟨h6, e6⟩ <;> rw [e5, e6]
       · exact ⟨by unfold far; omega, fun _ => rfl⟩
       · exact absurd h6 fb
       · exact ⟨by unfold far; omega, fun h => by unfold far at h; omega⟩
       · exact absurd h5 fa
       · exact absurd h5 fa
       · exact absurd h5 fa
       · exact (no_cross (f := fun t => -f t) (g := fun t => -g t) (d := fun t => -d t) lf.neg ld.neg ll hl (fun t => by rw [e]; grind) (fun t => by rw [e']; grind) h0 h1 h2 (by grind) (by grind) (fun t t1 t2 => by have := q t t1 t2; grind) ha).elim
       · exact absurd h6 fb
       · exact ⟨by unfold far; omega, fun _ => rfl⟩
   · have e1 := haw a h0 (by grind)
     have e2 := w a (by grind) h1
     have e3 := w' a (by grind) h1
     unfold Away at e1
     grind
theorem pieces {p : List Int} {z h : Qt} (hz : evI p z ≠ 0) (hh : 0 < h) {R : Qt → Qt → Prop} (tr : ∀ a b c, R a b → R b c → R a c)
 (hR : ∀ a b, 0 ≤ a → a ≤ b → b ≤ 1 → b - a ≤ h → evI p a ≠ 0 → evI p b ≠ 0 → R a b) : ∀ a b, 0 ≤ a → a ≤ b → b ≤ 1 → evI p a ≠ 0 → evI p b ≠ 0 → R a b := by
 have key : ∀ n : Nat, ∀ a b, 0 ≤ a → a ≤ b → b ≤ 1 → evI p a ≠ 0 → evI p b ≠ 0 → b - a ≤ (n : Qt) * (h / 2) → R a b := by
  intro n
  induction n with
  | zero =>
    intro a b h0 h1 h2 ha hb hn; have hn' : b - a ≤ (0 : Qt) * (h / 2) := hn; exact hR a b h0 h1 h2 (by grind) ha hb
  | succ n ih =>
    intro a b h0 h1 h2 ha hb hn; rw [show ((n + 1 : Nat) : Qt) = (n : Qt) + 1 by rw [Rat.natCast_add]; rfl] at hn
    by_cases k : b - a ≤ h
    · exact hR a b h0 h1 h2 k ha hb
    · obtain ⟨s, s1, s2, s3⟩ := nonroot hz (show a + h / 2 < a + h by grind)
      exact tr a s b (hR a s h0 (by grind) (by grind) (by grind) ha s3) (ih s b (by grind) (by grind) h2 s3 hb (by grind))
 intro a b h0 h1 h2 ha hb; obtain ⟨N, hN, hn⟩ := archi (b - a) (show 0 < h / 2 by grind)
 exact key N a b h0 h1 h2 ha hb (by have := hn N (Nat.le_refl _); grind)
theorem D2.neg {f g : Qt → Qt} (h : D2 f g) : D2 (fun t => -f t) (fun t => -g t) := by
 obtain ⟨B, hB, h⟩ := h; refine ⟨B, hB, fun s t h1 h2 h3 => ?_⟩
 have := h s t h1 h2 h3
 constructor <;> grind
theorem mean {F G : Qt → Qt} (hF : D2 F G) {x y M : Qt} (h0 : 0 ≤ x) (h1 : x ≤ y) (h2 : y ≤ 1) (hG : ∀ t, x ≤ t → t ≤ y → -M ≤ G t ∧ G t ≤ M) : -(M * (y - x)) ≤ F y - F x ∧ F y - F x ≤ M * (y - x) := by
 have a := D2.mono (hF.add (D2.id.smul M Lp.id)) h0 h1 h2 (fun t t1 t2 => by have := hG t t1 t2; grind)
 have b := D2.mono ((D2.id.smul M Lp.id).add hF.neg) h0 h1 h2 (fun t t1 t2 => by have := hG t t1 t2; grind)
 constructor <;> grind
theorem halves (n : Nat) : 0 < (1 / 2 : Qt) ^ n ∧ ((n : Qt) + 1) * (1 / 2 : Qt) ^ n ≤ 1 := by
 induction n with
 | zero => exact ⟨by rw [Rat.pow_zero]; grind, by show ((0 : Qt) + 1) * _ ≤ 1; rw [Rat.pow_zero]; grind⟩
 | succ n ih =>
   rw [Rat.pow_succ, show ((n + 1 : Nat) : Qt) = (n : Qt) + 1 by rw [Rat.natCast_add]; rfl]
   have h0 : (0 : Qt) ≤ (n : Qt) := Rat.natCast_nonneg; have := Rat.mul_nonneg h0 (Rat.le_of_lt ih.1)
   constructor <;> grind
theorem no_double {F G : Qt → Qt} (lF : Lp F) (hF : D2 F G) {x y C t : Qt} (h0 : 0 ≤ x) (h1 : x ≤ y) (h2 : y ≤ 1) (hC : 0 ≤ C) (hs : C * (y - x) ≤ 1 / 2) (ht : t = x ∨ t = y)
 (hG : ∀ S, (∀ s, x ≤ s → s ≤ y → -S ≤ F s ∧ F s ≤ S) → ∀ s, x ≤ s → s ≤ y → -(C * S) ≤ G s ∧ G s ≤ C * S) {A : Qt} (hA : -A ≤ F t ∧ F t ≤ A) : ∀ s, x ≤ s → s ≤ y → -(2 * A) ≤ F s ∧ F s ≤ 2 * A := by
 obtain ⟨T, hT, bT⟩ := lF.bd
 have step : ∀ S, (∀ s, x ≤ s → s ≤ y → -S ≤ F s ∧ F s ≤ S) → ∀ s, x ≤ s → s ≤ y → -(A + S / 2) ≤ F s ∧ F s ≤ A + S / 2 := by
  intro S hS s s1 s2; have hS0 : 0 ≤ S := by have := hS x (by grind) h1; grind
  have hg := hG S hS
  have k : ∀ u : Qt, 0 ≤ u → u ≤ y - x → C * S * u ≤ S / 2 := by
   intro u u0 u1; have a : C * u ≤ C * (y - x) := Rat.mul_le_mul_of_nonneg_left u1 hC; have b : C * u * S ≤ 1 / 2 * S := Rat.mul_le_mul_of_nonneg_right (by grind) hS0
   grind
  rcases ht with rfl | rfl
  · have m := mean hF h0 s1 (by grind) (fun u u1 u2 => hg u u1 (by grind))
    have := k (s - t) (by grind) (by grind)
    constructor <;> grind
  · have m := mean hF (show 0 ≤ s by grind) s2 h2 (fun u u1 u2 => hg u (by grind) u2)
    have := k (t - s) (by grind) (by grind)
    constructor <;> grind
 have all : ∀ n : Nat, ∀ s, x ≤ s → s ≤ y → -(2 * A + T * (1 / 2 : Qt) ^ n) ≤ F s ∧ F s ≤ 2 * A + T * (1 / 2 : Qt) ^ n := by
  intro n
  induction n with
  | zero =>
    intro s s1 s2; have := bT s (by grind) (by grind)
    have hA0 : 0 ≤ A := by grind
    rw [Rat.pow_zero]
    constructor <;> grind
  | succ n ih =>
    intro s s1 s2; have := step _ ih s s1 s2; rw [Rat.pow_succ]
    constructor <;> grind
 intro s s1 s2
 have lim : ∀ u : Qt, (∀ n : Nat, u ≤ 2 * A + T * (1 / 2 : Qt) ^ n) → u ≤ 2 * A := by
  intro u hu; by_cases k : u ≤ 2 * A
  · exact k
  · exfalso
    obtain ⟨N, hN, ha⟩ := archi T (show 0 < u - 2 * A by grind)
    have ha := ha N (Nat.le_refl _); have h := hu N; obtain ⟨p1, p2⟩ := halves N; have b1 : T * (1 / 2 : Qt) ^ N < (u - 2 * A) * (N : Qt) * (1 / 2 : Qt) ^ N := Rat.mul_lt_mul_of_pos_right ha p1; have b2 : (u - 2 * A) * ((N : Qt) * (1 / 2 : Qt) ^ N) ≤ (u - 2 * A) * 1 := Rat.mul_le_mul_of_nonneg_left (by grind) (by grind)
    grind
 constructor
 · have := lim (-F s) (fun n => by have := all n s s1 s2; grind)
   grind
 · exact lim (F s) (fun n => (all n s s1 s2).2)
theorem sq_le {x A : Qt} (h : -A ≤ x ∧ x ≤ A) : x * x ≤ A * A := (prod_bd h h).2
theorem piece_at {f g d l l' : Qt → Qt} (lf : Lp f) (lg : Lp g) (ld : Lp d) (ll : Lp l) (hl : D2 l l') (e : ∀ t, l t = f t * d t) (e' : ∀ t, l' t = g t * d t) {x : Qt} (hx : 0 < x) (haw : ∀ t, 0 ≤ t → t ≤ 1 → Away x (f t) (g t)) (hf0 : ∀ t, 0 ≤ t → t ≤ 1 → 0 ≤ f t) :
 ∃ r : Qt, 0 < r ∧ ∀ t, 0 ≤ t → t ≤ 1 → l 0 * l 0 ≤ 4 * (l t * l t) ∨ l 1 * l 1 ≤ 4 * (l t * l t) ∨ ∃ a b, 0 ≤ a ∧ a + r ≤ b ∧ b ≤ 1 ∧ ∀ s, a ≤ s → s ≤ b → l s * l s ≤ 4 * (l t * l t) := by
 obtain ⟨G, hG, bg⟩ := lg.bd; obtain ⟨r1, p1, s1⟩ := lg.split (show 0 < x / 2 by grind)
 obtain ⟨r2, p2, s2⟩ := (lf.sub (Lp.const (x / 2))).split (show 0 < x / 4 by grind)
 -- C x = 2 G
 obtain ⟨C, hC⟩ : ∃ C : Qt, C * x = 2 * G := ⟨2 * G / x, Rat.div_mul_cancel (by grind)⟩
 have hC0 : 0 ≤ C := by
  have : 0 * x ≤ C * x := by grind
  exact Rat.le_of_mul_le_mul_right this hx
 obtain ⟨r3, p3, s3⟩ := small_step hC0 (show (0 : Qt) < 1 / 2 by grind)
 obtain ⟨q1, k1, m1, m2⟩ := min_pos p1 p2; obtain ⟨q2, k2, m3, m4⟩ := min_pos p3 (show (0 : Qt) < 1 / 2 by grind)
 obtain ⟨r, k, m5, m6⟩ := min_pos k1 k2; have hF := hl.mul ll ll hl; refine ⟨r, k, fun t t0 t1 => ?_⟩
 have pos_slope : ∀ a b, 0 ≤ a → a ≤ b → b ≤ 1 → (∀ s, a ≤ s → s ≤ b → 0 < g s) → l a * l a ≤ l b * l b := by
  intro a b h0 h1 h2 hg; refine D2.mono hF h0 h1 h2 (fun s u1 u2 => ?_)
  rw [e, e']; have := Rat.mul_nonneg (Rat.mul_nonneg (hf0 s (by grind) (by grind)) (Rat.le_of_lt (hg s u1 u2))) (sq_nonneg (d s))
  grind
 have neg_slope : ∀ a b, 0 ≤ a → a ≤ b → b ≤ 1 → (∀ s, a ≤ s → s ≤ b → g s < 0) → l b * l b ≤ l a * l a := by
  intro a b h0 h1 h2 hg
  have := D2.mono hF.neg h0 h1 h2 (fun s u1 u2 => by
   rw [e, e']; have := Rat.mul_nonneg (Rat.mul_nonneg (hf0 s (by grind) (by grind)) (show 0 ≤ -g s by have := hg s u1 u2; grind)) (sq_nonneg (d s))
   grind)
  grind
 have h4 : 0 ≤ l t * l t := sq_nonneg _; by_cases hgt : x ≤ g t
 · -- upwards: to the left
   have pos : ∀ a, 0 ≤ a → a ≤ t → t - a ≤ r → ∀ s, a ≤ s → s ≤ t → 0 < g s := by
    intro a a0 a1 a2 s u1 u2; rcases s1 a t a0 a1 t1 (by grind) with w | w
    · rcases w with w | w
      · exact w s u1 u2
      · have := w t a1 (by grind); grind
    · have := w t a1 (by grind); grind
   by_cases hr : r ≤ t
   · right; right
     refine ⟨t - r, t, by grind, by grind, t1, fun s u1 u2 => ?_⟩
     have := pos_slope s t (by grind) u2 t1 (fun v v1 v2 => pos (t - r) (by grind) (by grind) (by grind) v (by grind) v2)
     grind
   · left
     have := pos_slope 0 t (by grind) t0 t1 (fun v v1 v2 => pos 0 (by grind) t0 (by grind) v v1 v2)
     grind
 · by_cases hgt' : g t ≤ -x
   · have neg : ∀ b, t ≤ b → b ≤ 1 → b - t ≤ r → ∀ s, t ≤ s → s ≤ b → g s < 0 := by
      intro b b0 b1 b2 s u1 u2; rcases s1 t b t0 b0 b1 (by grind) with w | w
      · rcases w with w | w
        · have := w t (by grind) b0; grind
        · exact w s u1 u2
      · have := w t (by grind) b0; grind
     by_cases hr : t + r ≤ 1
     · right; right
       refine ⟨t, t + r, t0, by grind, hr, fun s u1 u2 => ?_⟩
       have := neg_slope t s t0 u1 (by grind) (fun v v1 v2 => neg (t + r) (by grind) hr (by grind) v v1 (by grind))
       grind
     · right; left
       have := neg_slope t 1 t0 t1 (by grind) (fun v v1 v2 => neg 1 t1 (by grind) (by grind) v v1 v2)
       grind
   · have hft : x ≤ f t := by
      have a := haw t t0 t1; have b := hf0 t t0 t1; unfold Away at a
      grind
     obtain ⟨a, b, a0, ab, b1, hr, htab⟩ : ∃ a b, 0 ≤ a ∧ a + r = b ∧ b ≤ 1 ∧ (a ≤ t ∧ t ≤ b) ∧ (t = a ∨ t = b) := by
      by_cases hr : r ≤ t
      · exact ⟨t - r, t, by grind, by grind, t1, ⟨by grind, by grind⟩, .inr rfl⟩
      · exact ⟨t, t + r, t0, rfl, by grind, ⟨by grind, by grind⟩, .inl rfl⟩
     have fpos : ∀ s, a ≤ s → s ≤ b → x / 2 < f s := by
      intro s u1 u2; rcases s2 a b a0 (by grind) b1 (by grind) with w | w
      · rcases w with w | w
        · have := w s u1 u2; grind
        · have := w t hr.1 hr.2; grind
      · have := w t hr.1 hr.2; grind
     right; right
     refine ⟨a, b, a0, by grind, b1, fun s u1 u2 => ?_⟩
     have hA : -(l t).abs ≤ l t ∧ l t ≤ (l t).abs := by
      rcases Rat.le_total (a := 0) (b := l t) with q | q
      · rw [Rat.abs_of_nonneg q]; constructor <;> grind
      · rw [Rat.abs_of_nonpos q]; constructor <;> grind
     have hAA : (l t).abs * (l t).abs = l t * l t := by
      rcases Rat.le_total (a := 0) (b := l t) with q | q
      · rw [Rat.abs_of_nonneg q]
      · rw [Rat.abs_of_nonpos q]; grind
     have D := no_double ll hl a0 (show a ≤ b by grind) b1 hC0 (s3 (b - a) (by grind) (by grind)) htab (fun S hS v v1 v2 => by
      have S0 : 0 ≤ S := by have := hS v v1 v2; grind
      have w1 := hS v v1 v2; have w2 := fpos v v1 v2; rw [e] at w1
      have w3 : -(2 * S) ≤ x * d v ∧ x * d v ≤ 2 * S := by
       rcases Rat.le_total (a := 0) (b := d v) with q | q
       · have z1 := Rat.mul_le_mul_of_nonneg_right (show x / 2 ≤ f v by grind) q
         have z2 := Rat.mul_nonneg (Rat.le_of_lt hx) q
         constructor <;> grind
       · have z1 := Rat.mul_le_mul_of_nonneg_right (show x / 2 ≤ f v by grind) (show 0 ≤ -d v by grind)
         have z2 := Rat.mul_nonneg (Rat.le_of_lt hx) (show 0 ≤ -d v by grind)
         constructor <;> grind
      have w4 := prod_bd (bg v (by grind) (by grind)) w3
      rw [e']
      have w5 : C * S * x = G * (2 * S) := by
       have : C * S * x = C * x * S := by grind
       rw [this, hC]; grind
      constructor
      · refine Rat.le_of_mul_le_mul_right (c := x) ?_ hx
        grind
      · refine Rat.le_of_mul_le_mul_right (c := x) ?_ hx
        grind) hA s u1 u2
     have := sq_le D
     grind
theorem cells {p : List Int} {z r : Qt} (hz : evI p z ≠ 0) (hr : 0 < r) : ∃ m : Qt, 0 < m ∧ ∀ a b, 0 ≤ a → a + r ≤ b → b ≤ 1 → ∃ s, a ≤ s ∧ s ≤ b ∧ m ≤ evI p s * evI p s := by
 have hh : (0 : Qt) < r / 2 := by grind
 have key : ∀ n : Nat, ∃ m : Qt, 0 < m ∧ ∀ i : Nat, i < n → ∃ s, (i : Qt) * (r / 2) ≤ s ∧ s ≤ ((i : Qt) + 1) * (r / 2) ∧ m ≤ evI p s * evI p s := by
  intro n
  induction n with
  | zero => exact ⟨1, by grind, fun i hi => by omega⟩
  | succ n ih =>
    obtain ⟨m, hm, h⟩ := ih; obtain ⟨s, s1, s2, s3⟩ := nonroot hz (show (n : Qt) * (r / 2) < ((n : Qt) + 1) * (r / 2) by grind)
    obtain ⟨m', h1, h2, h3⟩ := min_pos hm (sq_pos s3); refine ⟨m', h1, fun i hi => ?_⟩
    rcases Nat.lt_or_ge i n with k | k
    · obtain ⟨u, u1, u2, u3⟩ := h i k; exact ⟨u, u1, u2, by grind⟩
    · obtain rfl : i = n := by omega
      exact ⟨s, s1, s2, h3⟩
 obtain ⟨N, hN, hn⟩ := archi 1 hh; have hn := hn N (Nat.le_refl _); obtain ⟨m, hm, h⟩ := key N; refine ⟨m, hm, fun a b a0 ab b1 => ?_⟩
 obtain ⟨j, hj1, hj2, hj3⟩ := least (P := fun i => a ≤ (i : Qt) * (r / 2)) (n := N) (by grind)
 have up : a ≤ (j : Qt) * (r / 2) ∧ (j : Qt) * (r / 2) ≤ a + r / 2 := by
  refine ⟨hj2, ?_⟩
  rcases j with _ | j
  · show (0 : Qt) * (r / 2) ≤ _
    grind
  · have := hj3 j (by omega)
    rw [show ((j + 1 : Nat) : Qt) = (j : Qt) + 1 by rw [Rat.natCast_add]; rfl]
    grind
 have hjN : j < N := by
  rcases Nat.lt_or_ge j N with k | k
  · exact k
  · obtain rfl : j = N := by omega
    grind
 obtain ⟨s, s1, s2, s3⟩ := h j hjN; exact ⟨s, by grind, by grind, s3⟩
def Low (f : Qt → Qt) : Prop := ∃ m : Qt, 0 < m ∧ ∀ t, 0 ≤ t → t ≤ 1 → m ≤ f t * f t
theorem low_of {f g d : Qt → Qt} {p : List Int} {K : List (Qt → Qt)} (hK : Ch (f :: g :: K)) (ld : Lp d) {q : Qt → Qt} (hl : D2 (evI p) q) (e : ∀ t, evI p t = f t * d t) (e' : ∀ t, q t = g t * d t) (h0 : evI p 0 ≠ 0) (h1 : evI p 1 ≠ 0)
 (hv : var (f :: g :: K) 0 = var (f :: g :: K) 1) : Low (evI p) := by
 have lf := hK.lp f (by simp)
 have lg := hK.lp g (by simp)
 have ll := evI_lp p; obtain ⟨h, hh, hp⟩ := var_piece hK ld ll hl e e'; have all := pieces h0 hh (R := fun a b => 0 ≤ var (f :: g :: K) a - var (f :: g :: K) b ∧ (var (f :: g :: K) a = var (f :: g :: K) b → sgn (f a) = sgn (f b))) (fun a b c h1 h2 => ⟨by omega, fun k => (h1.2 (by omega)).trans (h2.2 (by omega))⟩) (fun a b c1 c2 c3 c4 c5 c6 => hp a b c1 c2 c3 c4 c5 c6)
 have one : ∀ t, 0 ≤ t → t ≤ 1 → evI p t ≠ 0 → sgn (f t) = sgn (f 0) := by
  intro t t0 t1 ht; have a := all 0 t (by grind) t0 t1 h0 ht
  have b := all t 1 t0 t1 (by grind) ht h1
  exact (a.2 (by omega)).symm
 have f0 : f 0 ≠ 0 := fun k => h0 (by rw [e, k, Rat.zero_mul])
 -- one sign at all places
 have sign : ∀ F : Qt → Qt, Lp F → 0 < F 0 → (∀ t, 0 ≤ t → t ≤ 1 → evI p t ≠ 0 → sgn (F t) = sgn (F 0)) → ∀ t, 0 ≤ t → t ≤ 1 → 0 ≤ F t := by
  intro F lF hF0 hone t t0 t1; by_cases k : 0 ≤ F t
  · exact k
  · exfalso
    obtain ⟨r, hr, hs⟩ := lF.split (show 0 < -F t / 2 by grind)
    obtain ⟨r', hr', hr1, hr2⟩ := min_pos hr (show (0 : Qt) < 1 / 2 by grind)
    obtain ⟨a, b, a0, ab, b1, ht⟩ : ∃ a b, 0 ≤ a ∧ a + r' = b ∧ b ≤ 1 ∧ a ≤ t ∧ t ≤ b := by
     by_cases q : r' ≤ t
     · exact ⟨t - r', t, by grind, by grind, t1, by grind, by grind⟩
     · exact ⟨t, t + r', t0, rfl, by grind, by grind, by grind⟩
    obtain ⟨s, s1, s2, s3⟩ := nonroot h0 (show a < b by grind)
    have hsgn := hone s (by grind) (by grind) s3
    rw [sgn_pos hF0] at hsgn
    have neg : F s < 0 := by
     rcases hs a b a0 (by grind) b1 (by grind) with w | w
     · rcases w with w | w
       · have := w t ht.1 ht.2; grind
       · exact w s s1 s2
     · have := w t ht.1 ht.2; grind
    rw [sgn_neg neg] at hsgn; exact absurd hsgn (by decide)
 obtain ⟨x, hx, haw⟩ := hK.away f g K rfl
 obtain ⟨r, hr, hpc⟩ : ∃ r : Qt, 0 < r ∧ ∀ t, 0 ≤ t → t ≤ 1 → evI p 0 * evI p 0 ≤ 4 * (evI p t * evI p t) ∨ evI p 1 * evI p 1 ≤ 4 * (evI p t * evI p t) ∨ ∃ a b, 0 ≤ a ∧ a + r ≤ b ∧ b ≤ 1 ∧ ∀ s, a ≤ s → s ≤ b → evI p s * evI p s ≤ 4 * (evI p t * evI p t) := by
  rcases sgn_cases (f 0) with ⟨q, -⟩ | ⟨q, -⟩ | ⟨q, -⟩
  · exact piece_at lf lg ld ll hl e e' hx haw (sign f lf q one)
  · exact absurd q f0
  · refine piece_at lf.neg lg.neg ld.neg ll hl (fun t => by rw [e]; grind) (fun t => by rw [e']; grind) hx (fun t t0 t1 => ?_) (sign _ lf.neg (by grind) (fun t t0 t1 ht => by rw [sgn_minus, sgn_minus, one t t0 t1 ht]))
    have := haw t t0 t1; unfold Away at *
    grind
 obtain ⟨m, hm, hc⟩ := cells h0 hr; obtain ⟨m1, a1, a2, a3⟩ := min_pos (sq_pos h0) (sq_pos h1); obtain ⟨m2, b1, b2, b3⟩ := min_pos a1 hm; refine ⟨m2 / 4, by grind, fun t t0 t1 => ?_⟩
 rcases hpc t t0 t1 with k | k | ⟨a, b, k1, k2, k3, k4⟩
 · grind
 · grind
 · obtain ⟨s, s1, s2, s3⟩ := hc a b k1 k2 k3; have := k4 s s1 s2
   grind
theorem trim_slope {p : List Int} (h : Trim p) : Trim (slopeI p) := by
 rcases h with h | h
 · left; rw [h]; rfl
 · by_cases k : p.length ≤ 1
   · left
     unfold slopeI slopeN; rw [show p.length - 1 = 0 by omega]
     rfl
   · right
     unfold lastI slopeI slopeN at *; rw [List.length_map, List.length_range, List.getD_eq_getElem?_getD, List.getElem?_map, List.getElem?_range (by omega)]
     show p.getD (p.length - 1 - 1 + 1) 0 * ((p.length - 1 - 1 + 1 : Nat) : Int) ≠ 0
     rw [show p.length - 1 - 1 + 1 = p.length - 1 by omega]
     exact Int.mul_ne_zero h (by omega)
theorem sgn_ne {x : Qt} (h : sgn x ≠ 0) : x ≠ 0 := by rintro rfl; exact h sgn_zero
theorem ne_sgn {x : Qt} (h : x ≠ 0) : sgn x ≠ 0 := fun k => h (zero_of k)
theorem zeroI_false {p : List Int} : zeroI p = false ↔ evI p 0 ≠ 0 ∧ evI p 1 ≠ 0 ∧ turnI (rowI p (slopeI p)) = 0 := by
 unfold zeroI; rw [ends_sgn, Bool.or_eq_false_iff, Bool.or_eq_false_iff, decide_eq_false_iff_not, decide_eq_false_iff_not, decide_eq_false_iff_not, Classical.not_not]; exact ⟨fun ⟨a, b, c⟩ => ⟨sgn_ne a, sgn_ne b, c⟩, fun ⟨a, b, c⟩ => ⟨ne_sgn a, ne_sgn b, c⟩⟩
theorem steps {h : Qt} (hh : 0 < h) {R : Qt → Qt → Prop} (rf : ∀ a, R a a) (tr : ∀ a b c, R a b → R b c → R a c) (hR : ∀ a b, 0 ≤ a → a ≤ b → b ≤ 1 → b - a ≤ h → R a b) : ∀ a b, 0 ≤ a → a ≤ b → b ≤ 1 → R a b := by
 have key : ∀ n : Nat, ∀ a b, 0 ≤ a → a ≤ b → b ≤ 1 → b - a ≤ (n : Qt) * h → R a b := by
  intro n
  induction n with
  | zero =>
    intro a b h0 h1 h2 hn; have hn' : b - a ≤ (0 : Qt) * h := hn; obtain rfl : a = b := by grind
    exact rf a
  | succ n ih =>
    intro a b h0 h1 h2 hn; rw [show ((n + 1 : Nat) : Qt) = (n : Qt) + 1 by rw [Rat.natCast_add]; rfl] at hn
    by_cases k : b - a ≤ h
    · exact hR a b h0 h1 h2 k
    · exact tr a (a + h) b (hR a (a + h) h0 (by grind) (by grind) (by grind)) (ih (a + h) b (by grind) (by grind) h2 (by grind))
 intro a b h0 h1 h2; obtain ⟨N, hN, hn⟩ := archi (b - a) hh; exact key N a b h0 h1 h2 (by have := hn N (Nat.le_refl _); grind)
theorem zeroI_low {p : List Int} (ht : Trim p) : zeroI p = false ↔ Low (evI p) := by
 obtain ⟨d, K, ld, hK, hf, -⟩ := chain_fac ((slopeI p).length + 1) p (slopeI p) (by omega) ht (trim_slope ht)
 rw [zeroI_false]
 constructor
 · rintro ⟨h0, h1, ht⟩; unfold rowI at ht; by_cases hs : slopeI p = []
   · have hlen : p.length ≤ 1 := by
      have := congrArg List.length hs; unfold slopeI slopeN at this; rw [List.length_map, List.length_range, List.length_nil] at this; omega
     match p, hlen with
     | [], _ => exact absurd rfl h0
     | [x], _ =>
       refine ⟨evI [x] 0 * evI [x] 0, sq_pos h0, fun t _ _ => ?_⟩
       have : ∀ t, evI [x] t = (x : Qt) := by intro t; rw [evI_cons, evI_nil]; grind
       rw [this, this]; exact Rat.le_refl
   · obtain ⟨m, hm⟩ : ∃ m, chainI ((slopeI p).length + 1) p (slopeI p) = p :: slopeI p :: m := by
      rw [chainI, if_neg hs]; obtain ⟨j, hj⟩ : ∃ j, (slopeI p).length = j + 1 := ⟨(slopeI p).length - 1, by have := List.length_pos_iff.2 hs; omega⟩
      rw [hj, chainI]
      split
      · exact ⟨_, rfl⟩
      · exact ⟨_, rfl⟩
     rw [hm] at hf ht
     match K, hK, hf with
     | [], _, hf => exact hf.elim
     | [_], _, hf => exact hf.2.elim
     | f :: g :: K, hK, hf =>
       have d0 : d 0 ≠ 0 := fun k => h0 (by rw [hf.1, k, Rat.mul_zero])
       have d1 : d 1 ≠ 0 := fun k => h1 (by rw [hf.1, k, Rat.mul_zero])
       rw [turn_var d0 d1 _ _ hf] at ht; exact low_of hK ld (evI_slope p) hf.1 hf.2.1 h0 h1 (by omega)
 · rintro ⟨m, hm, hlow⟩; have ne : ∀ t, 0 ≤ t → t ≤ 1 → evI p t ≠ 0 := fun t t0 t1 k => by have := hlow t t0 t1; rw [k] at this; grind
   have h0 := ne 0 (by grind) (by grind)
   have h1 := ne 1 (by grind) (by grind)
   refine ⟨h0, h1, ?_⟩
   unfold rowI
   obtain ⟨m', hm'⟩ : ∃ m', chainI ((slopeI p).length + 1) p (slopeI p) = p :: m' := by
    rw [chainI]
    split
    · exact ⟨_, rfl⟩
    · exact ⟨_, rfl⟩
   rw [hm'] at hf ⊢
   match K, hK, hf with
   | [], _, hf => exact hf.elim
   | f :: K, hK, hf =>
     have d0 : d 0 ≠ 0 := fun k => h0 (by rw [hf.1, k, Rat.mul_zero])
     have d1 : d 1 ≠ 0 := fun k => h1 (by rw [hf.1, k, Rat.mul_zero])
     rw [turn_var d0 d1 _ _ hf]; obtain ⟨h, hh, hc⟩ := hK.cst.1; obtain ⟨D, hD, bd⟩ := ld.bd
     -- f stands away from nought: f² D² is at least m
     have lf := hK.lp f (by simp)
     obtain ⟨c, c0, c1⟩ : ∃ c : Qt, 0 < c ∧ c * D * (c * D) < m := by
      have hDD := Rat.mul_pos hD hD; obtain ⟨c, c0, c1⟩ := small_step (Rat.le_of_lt hDD) (show 0 < m / 2 by grind)
      obtain ⟨c', p1, p2, p3⟩ := min_pos c0 (show (0 : Qt) < 1 by grind)
      refine ⟨c', p1, ?_⟩
      have a := c1 c' (by grind) p2
      have b := Rat.mul_le_mul_of_nonneg_left p3 (Rat.le_of_lt (Rat.mul_pos hDD p1))
      grind
     obtain ⟨r, hr, hs⟩ := lf.split c0; obtain ⟨q, hq, q1, q2⟩ := min_pos hh hr
     have := steps hq (R := fun a b => var (f :: K) a = var (f :: K) b) (fun a => rfl) (fun a b c h k => h.trans k) (fun a b a0 ab b1 hab => by
      refine hc a b a0 ab b1 (by grind) ?_
      rcases hs a b a0 ab b1 (by grind) with w | w
      · exact w
      · exfalso
        have k1 := prod_bd (w a (by grind) ab) (bd a a0 (by grind))
        have k2 := sq_le k1; have k3 := hlow a a0 (by grind)
        rw [hf.1] at k3
        grind) 0 1 (by grind) (by grind) (by grind)
     omega
set_option maxRecDepth 100000
def scl (c : Qt) (z : Cx) : Cx := (c * z.1, c * z.2)
theorem far_neg (x y : Int) : far (-x) (-y) = far x y := by unfold far; omega
theorem dl_scl {c e : Qt} (hc : c ≠ 0) (he : sgn c = sgn e) (z w : Cx) : dl (scl c z) (scl e w) = dl z w := by
 unfold dl; have h : crs (scl c z) (scl e w) = c * e * crs z w := by unfold crs scl; grind
 rw [h, sgn_mul, sgn_mul]; show _ * far (sgn (e * w.2)) (sgn (c * z.2)) = _
 rw [sgn_mul, sgn_mul, ← he]; rcases sgn_cases c with ⟨-, k⟩ | ⟨k, -⟩ | ⟨-, k⟩
 · rw [k]; simp
 · exact absurd k hc
 · rw [k, show (-1 : Int) * sgn w.2 = -sgn w.2 by omega, show (-1 : Int) * sgn z.2 = -sgn z.2 by omega, far_neg]; simp
theorem trim_chain : ∀ (k : Nat) (p q : List Int), Trim p → Trim q → Trim (lastL (chainI k p q)) := by
 intro k
 induction k with
 | zero => intro p q hp _; exact hp
 | succ k ih =>
   intro p q hp hq; rw [chainI]
   split
   · exact hp
   · have := ih q (lessI p q) hq (trim_less hp); unfold lastL at *; cases hc : chainI k q (lessI p q) with
     | nil => rw [hc] at this; exact hp
     | cons x m => rw [hc] at this; simpa using this
theorem side_fac {u v : List Int} (hu : Trim u) (hv : Trim v) : ∃ (f g d : Qt → Qt) (V : Qt → Int) (x h : Qt), Lp f ∧ Lp g ∧ Lp d ∧ 0 < x ∧ (∀ t, 0 ≤ t → t ≤ 1 → Away x (f t) (g t)) ∧ (∀ t, evI v t = f t * d t) ∧ (∀ t, evI u t = g t * d t) ∧
 Trim (lastL (sideR u v)) ∧ (∀ t, evI (lastL (sideR u v)) t = d t) ∧ (d 0 ≠ 0 → d 1 ≠ 0 → sideT u v = V 0 - V 1) ∧ 0 < h ∧ ∀ a b, 0 ≤ a → a ≤ b → b ≤ 1 → b - a ≤ h → V a - V b = dl (g a, f a) (g b, f b) := by
 unfold sideR sideT; by_cases h : v = []
 · rw [if_pos h, if_pos h, h]; refine ⟨fun _ => 0, fun _ => 1, evI u, fun _ => 0, 1, 1, Lp.const 0, Lp.const 1, evI_lp u, by grind, fun t _ _ => .inr (.inr (.inl (by grind))), fun t => by rw [evI_nil]; grind, fun t => by grind, hu, fun t => rfl, fun _ _ => rfl, by grind, fun a b _ _ _ _ => ?_⟩
   exact (dl_up (a := (1, 0)) (b := (1, 0)) rfl).symm
 · rw [if_neg h, if_neg h]; have htr := trim_chain (u.length + 1) v u hv hu; unfold rowI; by_cases hu0 : u = []
   · rw [hu0] at htr ⊢; have hc : chainI (([] : List Int).length + 1) v [] = [v] := by rw [chainI, if_pos rfl]
     rw [hc] at htr ⊢; refine ⟨fun _ => 1, fun _ => 0, evI v, fun _ => 0, 1, 1, Lp.const 1, Lp.const 0, evI_lp v, by grind, fun t _ _ => .inl (by grind), fun t => by grind, fun t => by rw [evI_nil]; grind, htr, fun t => rfl, fun _ _ => rfl, by grind, fun a b _ _ _ _ => ?_⟩
     exact (dl_up (a := (0, 1)) (b := (0, 1)) rfl).symm
   · obtain ⟨d, K, ld, hK, hf, he⟩ := chain_fac (u.length + 1) v u (by omega) hv hu
     obtain ⟨m, hm⟩ : ∃ m, chainI (u.length + 1) v u = v :: u :: m := by
      rw [chainI, if_neg hu0]; obtain ⟨j, hj⟩ : ∃ j, u.length = j + 1 := ⟨u.length - 1, by have := List.length_pos_iff.2 hu0; omega⟩
      rw [hj, chainI]
      split
      · exact ⟨_, rfl⟩
      · exact ⟨_, rfl⟩
     rw [hm] at hf he htr ⊢
     match K, hK, hf with
     | [], _, hf => exact hf.elim
     | [_], _, hf => exact hf.2.elim
     | f :: g :: K, hK, hf =>
       obtain ⟨x, hx, haw⟩ := hK.away f g K rfl; obtain ⟨h, hh, hs⟩ := hK.side; exact ⟨f, g, d, var (f :: g :: K), x, h, hK.lp f (by simp), hK.lp g (by simp), ld, hx, haw, hf.1, hf.2.1, htr, he, fun d0 d1 => turn_var d0 d1 _ _ hf, hh, hs⟩
def LowC (F : Qt → Cx) : Prop := ∃ m : Qt, 0 < m ∧ ∀ t, 0 ≤ t → t ≤ 1 → m ≤ nrm (F t)
theorem away_sq {x a b : Qt} (hx : 0 < x) (h : Away x a b) : x * x ≤ a * a + b * b := by
 have q : ∀ y : Qt, x ≤ y → x * x ≤ y * y := fun y k => by
  have a := Rat.mul_le_mul_of_nonneg_left k (Rat.le_of_lt hx); have b := Rat.mul_le_mul_of_nonneg_right k (show 0 ≤ y by grind)
  grind
 have sa := sq_nonneg a; have sb := sq_nonneg b; rcases h with h | h | h | h
 · have := q a h; grind
 · have := q (-a) (by grind); grind
 · have := q b h; grind
 · have := q (-b) (by grind); grind
theorem low_fac {f g d : Qt → Qt} {F : Qt → Cx} {D x : Qt} (hD : 0 < D) (lf : Lp f) (lg : Lp g) (hx : 0 < x) (haw : ∀ t, 0 ≤ t → t ≤ 1 → Away x (f t) (g t)) (hv : ∀ t, D * (F t).2 = f t * d t) (hu : ∀ t, D * (F t).1 = g t * d t) : Low d ↔ LowC F := by
 have key : ∀ t, D * D * nrm (F t) = (f t * f t + g t * g t) * (d t * d t) := by
  intro t; unfold nrm; have a := hv t; have b := hu t; have : D * D * ((F t).1 * (F t).1 + (F t).2 * (F t).2) = (D * (F t).1) * (D * (F t).1) + (D * (F t).2) * (D * (F t).2) := by grind
  rw [this, a, b]
  grind
 have hDD := Rat.mul_pos hD hD; have hxx := Rat.mul_pos hx hx
 constructor
 · rintro ⟨m, hm, h⟩; refine ⟨x * x * m / (D * D), by rw [Rat.lt_div_iff hDD, Rat.zero_mul]; exact Rat.mul_pos hxx hm, fun t t0 t1 => ?_⟩
   refine Rat.le_of_mul_le_mul_left (c := D * D) ?_ hDD
   rw [key, Rat.mul_comm (D * D), Rat.div_mul_cancel (by grind)]
   have a := away_sq hx (haw t t0 t1); have b := h t t0 t1; have c := Rat.mul_le_mul_of_nonneg_left b (Rat.le_of_lt hxx); have e := Rat.mul_le_mul_of_nonneg_right a (sq_nonneg (d t))
   grind
 · rintro ⟨m, hm, h⟩; obtain ⟨A, hA, ba⟩ := lf.bd; obtain ⟨B, hB, bb⟩ := lg.bd; have hAB : 0 < A * A + B * B := by have := Rat.mul_pos hA hA; have := Rat.mul_pos hB hB; grind
   refine ⟨D * D * m / (A * A + B * B), by rw [Rat.lt_div_iff hAB, Rat.zero_mul]; exact Rat.mul_pos hDD hm, fun t t0 t1 => ?_⟩
   refine Rat.le_of_mul_le_mul_left (c := A * A + B * B) ?_ hAB
   rw [Rat.mul_comm (A * A + B * B), Rat.div_mul_cancel (by grind)]
   have a := sq_le (ba t t0 t1); have b := sq_le (bb t t0 t1); have c := Rat.mul_le_mul_of_nonneg_left (h t t0 t1) (Rat.le_of_lt hDD); rw [key] at c; have e := Rat.mul_le_mul_of_nonneg_right (show f t * f t + g t * g t ≤ A * A + B * B by grind) (sq_nonneg (d t))
   grind
theorem low_ext {f g : Qt → Qt} (h : ∀ t, f t = g t) : Low f ↔ Low g := by rw [funext h]
theorem side_touch {u v : List Int} {F : Qt → Cx} {D : Qt} (hu : Trim u) (hv : Trim v) (hD : 0 < D) (eu : ∀ t, evI u t = D * (F t).1) (ev : ∀ t, evI v t = D * (F t).2) : sideZ u v = false ↔ LowC F := by
 obtain ⟨f, g, d, V, x, h, lf, lg, ld, hx, haw, e1, e2, ht, el, -, -, -⟩ := side_fac hu hv; unfold sideZ; rw [zeroI_low ht, low_ext el]; exact low_fac hD lf lg hx haw (fun t => by rw [← ev, e1]) (fun t => by rw [← eu, e2])
theorem side_turn {u v : List Int} {F : Qt → Cx} {D : Qt} (hu : Trim u) (hv : Trim v) (hD : 0 < D) (eu : ∀ t, evI u t = D * (F t).1) (ev : ∀ t, evI v t = D * (F t).2) (hl : LowC F) :
 ∃ (V : Qt → Int) (h : Qt), sideT u v = V 0 - V 1 ∧ 0 < h ∧ ∀ a b, 0 ≤ a → a ≤ b → b ≤ 1 → b - a ≤ h → V a - V b = dl (F a) (F b) := by
 obtain ⟨f, g, d, V, x, h, lf, lg, ld, hx, haw, e1, e2, ht, el, hT, hh, hs⟩ := side_fac hu hv; obtain ⟨m, hm, hlow⟩ := (low_fac hD lf lg hx haw (fun t => by rw [← ev, e1]) (fun t => by rw [← eu, e2])).2 hl
 have ne : ∀ t, 0 ≤ t → t ≤ 1 → d t ≠ 0 := fun t t0 t1 k => by have := hlow t t0 t1; rw [k] at this; grind
 obtain ⟨c, c0, c1⟩ : ∃ c : Qt, 0 < c ∧ c * c < m := by
  obtain ⟨c', p1, p2, p3⟩ := min_pos (show 0 < m / 2 by grind) (show (0 : Qt) < 1 by grind)
  refine ⟨c', p1, ?_⟩
  have := Rat.mul_le_mul_of_nonneg_left p3 (Rat.le_of_lt p1)
  grind
 obtain ⟨r, hr, hr2⟩ := ld.split c0; obtain ⟨q, hq, q1, q2⟩ := min_pos hh hr; refine ⟨V, q, hT (ne 0 (by grind) (by grind)) (ne 1 (by grind) (by grind)), hq, fun a b a0 ab b1 hab => ?_⟩
 rw [hs a b a0 ab b1 (by grind)]
 have hsd : sgn (d a) = sgn (d b) := by
  rcases hr2 a b a0 ab b1 (by grind) with w | w
  · exact w.eq a b (by grind) ab ab (by grind)
  · exfalso
    have k2 := sq_le (w a (by grind) ab)
    have k3 := hlow a a0 (by grind)
    grind
 have k1 : scl (d a) (g a, f a) = scl D (F a) := by
  unfold scl; rw [← eu, ← ev, e1, e2]; ext <;> grind
 have k2 : scl (d b) (g b, f b) = scl D (F b) := by
  unfold scl; rw [← eu, ← ev, e1, e2]; ext <;> grind
 rw [← dl_scl (ne a a0 (by grind)) hsd, k1, k2, dl_scl (by grind) rfl]
def isum (e : Nat → Int) : Nat → Int
 | 0 => 0
 | n + 1 => isum e n + e n
theorem isum_congr {e f : Nat → Int} {n : Nat} (h : ∀ i, i < n → e i = f i) : isum e n = isum f n := by
 induction n with
 | zero => rfl
 | succ n ih => rw [isum, isum, ih (fun i hi => h i (by omega)), h n (by omega)]
theorem isum_add (e f : Nat → Int) (n : Nat) : isum (fun i => e i + f i) n = isum e n + isum f n := by
 induction n with
 | zero => rfl
 | succ n ih => rw [isum, isum, isum, ih]; omega
theorem isum_tel (V : Nat → Int) (n : Nat) : isum (fun i => V i - V (i + 1)) n = V 0 - V n := by
 induction n with
 | zero => rw [isum]; omega
 | succ n ih => rw [isum, ih]; omega
theorem isum_head (e : Nat → Int) (n : Nat) : isum e (n + 1) = e 0 + isum (fun i => e (i + 1)) n := by
 induction n with
 | zero => rw [isum, isum, isum]; omega
 | succ n ih => rw [isum, ih, isum]; omega
theorem isum_rev (e : Nat → Int) (n : Nat) : isum (fun i => e (n - 1 - i)) n = isum e n := by
 induction n with
 | zero => rfl
 | succ n ih =>
   rw [isum_head, isum, ← ih, show n + 1 - 1 - 0 = n by omega, isum_congr (f := fun i => e (n - 1 - i)) (fun i hi => by show e (n + 1 - 1 - (i + 1)) = e (n - 1 - i); rw [show n + 1 - 1 - (i + 1) = n - 1 - i by omega])]
   omega
def wayT (P Q : Cx) (t : Qt) : Cx := (P.1 + t * (Q.1 - P.1), P.2 + t * (Q.2 - P.2))
def prt (n i : Nat) : Qt := (i : Qt) / (n : Qt)
def Sd (F : Cx → Cx) (P Q : Cx) (n : Nat) : Int := isum (fun i => dl (F (wayT P Q (prt n i))) (F (wayT P Q (prt n (i + 1))))) n
theorem prt_zero (n : Nat) : prt n 0 = 0 := by
 unfold prt; show (0 : Qt) / _ = 0
 rw [Rat.div_def, Rat.zero_mul]
theorem nat_pos {n : Nat} (h : 1 ≤ n) : (0 : Qt) < (n : Qt) := Rat.natCast_pos.2 (by omega)
theorem prt_mul {n : Nat} (h : 1 ≤ n) (i : Nat) : prt n i * (n : Qt) = (i : Qt) := Rat.div_mul_cancel (by have := nat_pos h; grind)
theorem prt_all {n : Nat} (h : 1 ≤ n) : prt n n = 1 := by
 have a := prt_mul h n; have p := nat_pos h; have : (prt n n - 1) * (n : Qt) = 0 := by grind
 rcases Rat.mul_eq_zero.1 this with k | k
 · grind
 · grind
theorem prt_step {n : Nat} (h : 1 ≤ n) (i : Nat) : prt n (i + 1) = prt n i + prt n 1 := by
 have a := prt_mul h i; have b := prt_mul h (i + 1); have c := prt_mul h 1; have e : ((i + 1 : Nat) : Qt) = (i : Qt) + 1 := by rw [Rat.natCast_add]; rfl
 have e1 : ((1 : Nat) : Qt) = 1 := rfl; have p := nat_pos h; have : (prt n (i + 1) - (prt n i + prt n 1)) * (n : Qt) = 0 := by grind
 rcases Rat.mul_eq_zero.1 this with k | k
 · grind
 · grind
theorem prt_nonneg {n : Nat} (h : 1 ≤ n) (i : Nat) : 0 ≤ prt n i := by
 have a := prt_mul h i; have p := nat_pos h; have q : (0 : Qt) ≤ (i : Qt) := Rat.natCast_nonneg; exact Rat.le_of_mul_le_mul_right (c := (n : Qt)) (by grind) p
theorem prt_le {n i : Nat} (h : 1 ≤ n) (hi : i ≤ n) : prt n i ≤ 1 := by
 have a := prt_mul h i; have p := nat_pos h; have q : (i : Qt) ≤ (n : Qt) := Rat.natCast_le_natCast.2 hi; exact Rat.le_of_mul_le_mul_right (c := (n : Qt)) (by grind) p
theorem prt_rev {n i : Nat} (h : 1 ≤ n) (hi : i ≤ n) : prt n (n - i) = 1 - prt n i := by
 have a := prt_mul h i; have b := prt_mul h (n - i); have p := nat_pos h; have e : ((n - i : Nat) : Qt) + (i : Qt) = (n : Qt) := by rw [← Rat.natCast_add]; congr 1; omega
 have : (prt n (n - i) - (1 - prt n i)) * (n : Qt) = 0 := by grind
 rcases Rat.mul_eq_zero.1 this with k | k
 · grind
 · grind
theorem wayT_zero (P Q : Cx) : wayT P Q 0 = P := by unfold wayT; ext <;> grind
theorem wayT_one (P Q : Cx) : wayT P Q 1 = Q := by unfold wayT; ext <;> grind
theorem wayT_rev (P Q : Cx) (t : Qt) : wayT Q P (1 - t) = wayT P Q t := by unfold wayT; ext <;> grind
theorem wayT_way (P Q : Cx) (a b t : Qt) : wayT (wayT P Q a) (wayT P Q b) t = wayT P Q (a + t * (b - a)) := by unfold wayT; ext <;> grind
theorem Sd_rev (F : Cx → Cx) (P Q : Cx) {n : Nat} (h : 1 ≤ n) : Sd F Q P n = -Sd F P Q n := by
 unfold Sd; rw [← isum_rev (fun i => dl (F (wayT Q P (prt n i))) (F (wayT Q P (prt n (i + 1)))))]
 have neg : ∀ (e : Nat → Int) (n : Nat), isum (fun i => -e i) n = -isum e n := by
  intro e n
  induction n with
  | zero => rfl
  | succ n ih => rw [isum, isum, ih]; omega
 rw [← neg]; refine isum_congr (fun i hi => ?_)
 rw [← dl_anti]
 have e1 : wayT Q P (prt n (n - 1 - i)) = wayT P Q (prt n (i + 1)) := by
  rw [show n - 1 - i = n - (i + 1) by omega, prt_rev h (by omega), wayT_rev]
 have e2 : wayT Q P (prt n (n - 1 - i + 1)) = wayT P Q (prt n i) := by
  rw [show n - 1 - i + 1 = n - i by omega, prt_rev h (by omega), wayT_rev]
 rw [e1, e2]
theorem side_parts {u v : List Int} {F : Cx → Cx} {P Q : Cx} {D : Qt} (hu : Trim u) (hv : Trim v) (hD : 0 < D) (eu : ∀ t, evI u t = D * (F (wayT P Q t)).1) (ev : ∀ t, evI v t = D * (F (wayT P Q t)).2) (hl : LowC (fun t => F (wayT P Q t))) :
 ∃ (V : Qt → Int) (N : Nat), sideT u v = V 0 - V 1 ∧ 1 ≤ N ∧ ∀ n, N ≤ n → ∀ a b, 0 ≤ a → a ≤ b → b ≤ 1 → Sd F (wayT P Q a) (wayT P Q b) n = V a - V b := by
 obtain ⟨V, h, hT, hh, hs⟩ := side_turn hu hv hD (F := fun t => F (wayT P Q t)) eu ev hl
 obtain ⟨N, hN, ha⟩ := archi 1 hh; refine ⟨V, N, hT, hN, fun n hn a b a0 ab b1 => ?_⟩
 have hn1 : 1 ≤ n := by omega
 have hp1 : prt n 1 ≤ h := by
  have p := nat_pos hn1; have k := prt_mul hn1 1; have e1 : ((1 : Nat) : Qt) = 1 := rfl; have := ha n hn; exact Rat.le_of_mul_le_mul_right (c := (n : Qt)) (by grind) p
 unfold Sd; have e := isum_tel (fun i => V (a + prt n i * (b - a))) n
 rw [prt_zero, prt_all hn1, show a + 0 * (b - a) = a by grind, show a + 1 * (b - a) = b by grind] at e
 rw [← e]; refine isum_congr (fun i hi => ?_)
 rw [wayT_way, wayT_way]; have q0 := prt_nonneg hn1 i; have q1 := prt_le hn1 (show i + 1 ≤ n by omega)
 have q2 := prt_step hn1 i; have q3 := prt_nonneg hn1 1; have w0 := Rat.mul_nonneg q0 (show 0 ≤ b - a by grind)
 have w1 := Rat.mul_le_mul_of_nonneg_right q1 (show 0 ≤ b - a by grind)
 have w2 := Rat.mul_nonneg q3 (show 0 ≤ b - a by grind)
 have w3 := Rat.mul_le_mul_of_nonneg_left (show b - a ≤ 1 by grind) q3
 exact (hs (a + prt n i * (b - a)) (a + prt n (i + 1) * (b - a)) (by grind) (by grind) (by grind) (by grind)).symm
def mns (x y : Cx) : Cx := (x.1 - y.1, x.2 - y.2)
def PC : Nat → (Cx → Cx) → Prop
 | 0, F => ∀ z, F z = (0, 0)
 | n + 1, F => ∃ c G, PC n G ∧ ∀ z, F z = pls c (tim z (G z))
theorem PC.addmul {n : Nat} {F G : Cx → Cx} (a : Cx) (hF : PC n F) (hG : PC n G) : PC n (fun z => pls (F z) (tim a (G z))) := by
 induction n generalizing F G with
 | zero => intro z; show pls (F z) (tim a (G z)) = _; rw [hF z, hG z]; unfold pls tim; ext <;> grind
 | succ n ih =>
   obtain ⟨c, f, h1, h2⟩ := hF; obtain ⟨d, g, k1, k2⟩ := hG; refine ⟨pls c (tim a d), _, ih h1 k1, fun z => ?_⟩
   show pls (F z) (tim a (G z)) = _
   rw [h2, k2]; unfold pls tim
   ext <;> grind
theorem PC.up {n : Nat} {F : Cx → Cx} (hF : PC n F) : PC (n + 1) F := by
 induction n generalizing F with
 | zero => exact ⟨(0, 0), F, hF, fun z => by rw [hF z]; unfold pls tim; ext <;> grind⟩
 | succ n ih =>
   obtain ⟨c, g, h1, h2⟩ := hF; exact ⟨c, g, ih h1, h2⟩
theorem PC.div {n : Nat} {F : Cx → Cx} (a : Cx) (hF : PC (n + 1) F) : ∃ G, PC n G ∧ ∀ z, F z = pls (F a) (tim (mns z a) (G z)) := by
 induction n generalizing F with
 | zero =>
   obtain ⟨c, g, h1, h2⟩ := hF; refine ⟨g, h1, fun z => ?_⟩
   rw [h2, h2 a, h1 z, h1 a]; unfold pls tim mns
   ext <;> grind
 | succ n ih =>
   obtain ⟨c, g, h1, h2⟩ := hF; obtain ⟨q, k1, k2⟩ := ih h1; refine ⟨fun z => pls (g z) (tim a (q z)), h1.addmul a k1.up, fun z => ?_⟩
   have e : ∀ (c z a u v : Cx), pls c (tim z (pls u (tim (mns z a) v))) = pls (pls c (tim a u)) (tim (mns z a) (pls (pls u (tim (mns z a) v)) (tim a v))) := by
    intro c z a u v; unfold pls tim mns
    ext <;> grind
   rw [h2, h2 a]; show pls c (tim z (g z)) = pls (pls c (tim a (g a))) (tim (mns z a) (pls (g z) (tim a (q z))))
   rw [k2 z]; exact e c z a (g a) (q z)
def InB (R : Qt) (z : Cx) : Prop := (-R ≤ z.1 ∧ z.1 ≤ R) ∧ (-R ≤ z.2 ∧ z.2 ≤ R)
theorem nrm_pls (x y : Cx) : nrm (pls x y) ≤ 2 * nrm x + 2 * nrm y := by
 have a := sq_nonneg (x.1 - y.1); have b := sq_nonneg (x.2 - y.2); unfold nrm pls
 grind
theorem nrm_inB {R : Qt} {z : Cx} (h : InB R z) : nrm z ≤ 2 * (R * R) := by
 have a := sq_le h.1; have b := sq_le h.2; unfold nrm
 grind
theorem PC.lip {n : Nat} {F : Cx → Cx} (hF : PC n F) (R : Qt) : ∃ L B : Qt, 0 ≤ L ∧ 0 ≤ B ∧ ∀ z w, InB R z → InB R w → nrm (F z) ≤ B ∧ nrm (mns (F z) (F w)) ≤ L * nrm (mns z w) := by
 induction n generalizing F with
 | zero =>
   refine ⟨0, 0, by grind, by grind, fun z w _ _ => ?_⟩
   rw [hF z, hF w]
   constructor
   · unfold nrm; grind
   · unfold nrm mns; grind
 | succ n ih =>
   obtain ⟨c, G, h1, h2⟩ := hF; obtain ⟨L, B, hL, hB, h⟩ := ih h1; have hR := sq_nonneg R; refine ⟨2 * B + 2 * (2 * (R * R) * L), 2 * nrm c + 2 * (2 * (R * R) * B), ?_, ?_, fun z w hz hw => ⟨?_, ?_⟩⟩
   · have := Rat.mul_nonneg hR hL; grind
   · have := Rat.mul_nonneg hR hB; have := nrm_nonneg c; grind
   · rw [h2]; have a := nrm_pls c (tim z (G z)); rw [nrm_tim] at a; have b := (h z w hz hw).1; have c1 := Rat.mul_le_mul_of_nonneg_left b (nrm_nonneg z); have c2 := Rat.mul_le_mul_of_nonneg_right (nrm_inB hz) hB
     grind
   · rw [h2, h2 w]
     have e : mns (pls c (tim z (G z))) (pls c (tim w (G w))) = pls (tim (mns z w) (G z)) (tim w (mns (G z) (G w))) := by
      unfold mns pls tim; ext <;> grind
     rw [e]; have a := nrm_pls (tim (mns z w) (G z)) (tim w (mns (G z) (G w))); rw [nrm_tim, nrm_tim] at a; obtain ⟨b1, b2⟩ := h z w hz hw; have c1 := Rat.mul_le_mul_of_nonneg_left b1 (nrm_nonneg (mns z w)); have c2 := Rat.mul_le_mul_of_nonneg_left b2 (nrm_nonneg w); have c3 := Rat.mul_le_mul_of_nonneg_right (nrm_inB hw) (Rat.mul_nonneg hL (nrm_nonneg (mns z w)))
     grind
theorem dot_close {a b : Cx} (h : nrm (mns a b) < nrm a + nrm b) : 0 < dot a b := by
 unfold nrm mns dot at *
 grind
theorem inB_of (P : Cx) : ∃ R : Qt, 0 ≤ R ∧ InB R P := by
 have q : ∀ x : Qt, ∃ R : Qt, 0 ≤ R ∧ -R ≤ x ∧ x ≤ R := fun x => by
  rcases Rat.le_total (a := 0) (b := x) with h | h
  · exact ⟨x, h, by grind, by grind⟩
  · exact ⟨-x, by grind, by grind, by grind⟩
 obtain ⟨a, a0, a1, a2⟩ := q P.1; obtain ⟨b, b0, b1, b2⟩ := q P.2; exact ⟨a + b, by grind, ⟨by grind, by grind⟩, ⟨by grind, by grind⟩⟩
theorem InB.mono {R S : Qt} {z : Cx} (h : InB R z) (k : R ≤ S) : InB S z := ⟨⟨by have := h.1.1; grind, by have := h.1.2; grind⟩, ⟨by have := h.2.1; grind, by have := h.2.2; grind⟩⟩
theorem mid_le {p q t R : Qt} (t0 : 0 ≤ t) (t1 : t ≤ 1) (hp : -R ≤ p ∧ p ≤ R) (hq : -R ≤ q ∧ q ≤ R) : -R ≤ p + t * (q - p) ∧ p + t * (q - p) ≤ R := by
 have a := Rat.mul_nonneg t0 (show 0 ≤ R - q by grind)
 have b := Rat.mul_nonneg (show 0 ≤ 1 - t by grind) (show 0 ≤ R - p by grind)
 have c := Rat.mul_nonneg t0 (show 0 ≤ q + R by grind)
 have d := Rat.mul_nonneg (show 0 ≤ 1 - t by grind) (show 0 ≤ p + R by grind)
 constructor <;> grind
theorem inB_way {R t : Qt} {P Q : Cx} (hP : InB R P) (hQ : InB R Q) (t0 : 0 ≤ t) (t1 : t ≤ 1) : InB R (wayT P Q t) := ⟨mid_le t0 t1 hP.1 hQ.1, mid_le t0 t1 hP.2 hQ.2⟩
theorem prt_small {C e : Qt} (hC : 0 ≤ C) (he : 0 < e) : ∃ N : Nat, 1 ≤ N ∧ ∀ n, N ≤ n → C * (prt n 1 * prt n 1) < e := by
 obtain ⟨N, hN, h⟩ := archi C he; refine ⟨N, hN, fun n hn => ?_⟩
 have hn1 : 1 ≤ n := by omega
 have a := prt_mul hn1 1; have e1 : ((1 : Nat) : Qt) = 1 := rfl; have p := nat_pos hn1; have b := h n hn; have q0 := prt_nonneg hn1 1; have q1 := prt_le hn1 hn1
 have c := Rat.mul_lt_mul_of_pos_right b (show 0 < prt n 1 by
  rcases Rat.le_iff_lt_or_eq.1 q0 with k | k
  · exact k
  · rw [← k] at a; grind)
 have d := Rat.mul_le_mul_of_nonneg_left q1 (Rat.mul_nonneg hC q0); have f : e * (n : Qt) * prt n 1 = e := by rw [Rat.mul_assoc, Rat.mul_comm (n : Qt), a, e1]; grind
 grind
def Cls (F : Cx → Cx) (P Q : Cx) (n : Nat) : Prop := ∀ i, i < n → 0 < dot (F (wayT P Q (prt n i))) (F (wayT P Q (prt n (i + 1))))
theorem PC.cls {k : Nat} {F : Cx → Cx} (hF : PC k F) {P Q : Cx} (hl : LowC (fun t => F (wayT P Q t))) : ∃ N, 1 ≤ N ∧ ∀ n, N ≤ n → Cls F P Q n := by
 obtain ⟨R1, r1, h1⟩ := inB_of P; obtain ⟨R2, r2, h2⟩ := inB_of Q; obtain ⟨L, B, hL, hB, h⟩ := hF.lip (R1 + R2); obtain ⟨m, hm, hlow⟩ := hl; obtain ⟨N, hN, hs⟩ := prt_small (Rat.mul_nonneg hL (nrm_nonneg (mns Q P))) hm; refine ⟨N, hN, fun n hn i hi => dot_close ?_⟩
 have hn1 : 1 ≤ n := by omega
 have a0 := prt_nonneg hn1 i; have a1 := prt_le hn1 (show i ≤ n by omega)
 have b0 := prt_nonneg hn1 (i + 1); have b1 := prt_le hn1 (show i + 1 ≤ n by omega)
 have k := (h _ _ (inB_way (h1.mono (by grind)) (h2.mono (by grind)) a0 a1) (inB_way (h1.mono (by grind)) (h2.mono (by grind)) b0 b1)).2
 have e : nrm (mns (wayT P Q (prt n i)) (wayT P Q (prt n (i + 1)))) = prt n 1 * prt n 1 * nrm (mns Q P) := by
  rw [prt_step hn1 i]; unfold nrm mns wayT
  grind
 rw [e] at k; have l1 := hlow _ a0 a1; have l2 := nrm_nonneg (F (wayT P Q (prt n (i + 1)))); have := hs n hn
 grind
theorem Sd_mul {F G : Cx → Cx} {P Q : Cx} {n : Nat} (hn : 1 ≤ n) (hF : Cls F P Q n) (hG : Cls G P Q n) : Sd (fun z => tim (F z) (G z)) P Q n = Sd F P Q n + Sd G P Q n + car (F Q) (G Q) - car (F P) (G P) := by
 have e := isum_tel (fun i => -car (F (wayT P Q (prt n i))) (G (wayT P Q (prt n i)))) n
 rw [prt_zero, prt_all hn, wayT_zero, wayT_one] at e
 have : Sd (fun z => tim (F z) (G z)) P Q n = isum (fun i => dl (F (wayT P Q (prt n i))) (F (wayT P Q (prt n (i + 1)))) + dl (G (wayT P Q (prt n i))) (G (wayT P Q (prt n (i + 1)))) + (-car (F (wayT P Q (prt n i))) (G (wayT P Q (prt n i))) - -car (F (wayT P Q (prt n (i + 1)))) (G (wayT P Q (prt n (i + 1)))))) n := by
  refine isum_congr (fun i hi => ?_)
  have f := hF i hi; have g := hG i hi; show dl (tim (F (wayT P Q (prt n i))) (G (wayT P Q (prt n i)))) (tim (F (wayT P Q (prt n (i + 1)))) (G (wayT P Q (prt n (i + 1))))) = _
  generalize F (wayT P Q (prt n i)) = z at *; generalize F (wayT P Q (prt n (i + 1))) = w at *; generalize G (wayT P Q (prt n i)) = x at *; generalize G (wayT P Q (prt n (i + 1))) = y at *; have d1 : 0 < dot (tim z x) (tim w x) := by rw [dot_tim]; exact Rat.mul_pos (dot_ne g).1 f
  have d2 : 0 < dot (tim w x) (tim w y) := by rw [tim_comm w x, tim_comm w y, dot_tim]; exact Rat.mul_pos (dot_ne f).2 g
  rw [← dl_add d1 d2, dl_tim f (dot_ne g).1, tim_comm w x, tim_comm w y, dl_tim g (dot_ne f).2]; have c : ∀ a b : Cx, car a b = car b a := by intro a b; unfold car; rw [tim_comm a b]; grind
  rw [c y w, c x w]; omega
 rw [this, isum_add, isum_add, e]; unfold Sd; omega
theorem Sd_pha {F : Cx → Cx} {P Q : Cx} {n : Nat} (hn : 1 ≤ n) (hF : Cls F P Q n) : ∃ k, Sd F P Q n = pha (F Q) - pha (F P) + 4 * k := by
 have key : ∀ j, j ≤ n → ∃ k, isum (fun i => dl (F (wayT P Q (prt n i))) (F (wayT P Q (prt n (i + 1))))) j = pha (F (wayT P Q (prt n j))) - pha (F (wayT P Q (prt n 0))) + 4 * k := by
  intro j
  induction j with
  | zero => intro _; exact ⟨0, by rw [isum]; omega⟩
  | succ j ih =>
    intro hj; obtain ⟨k, hk⟩ := ih (by omega)
    obtain ⟨k', hk'⟩ := dl_pha (hF j (by omega))
    exact ⟨k + k', by rw [isum, hk, hk']; omega⟩
 obtain ⟨k, hk⟩ := key n (Nat.le_refl _); rw [prt_zero, prt_all hn, wayT_zero, wayT_one] at hk; exact ⟨k, hk⟩
theorem Sd_near {F G : Cx → Cx} {P Q : Cx} {n : Nat} (hn : 1 ≤ n) (hF : Cls F P Q n) (hG : Cls G P Q n) (hFG : ∀ t, 0 ≤ t → t ≤ 1 → 0 < dot (F (wayT P Q t)) (G (wayT P Q t))) : Sd F P Q n = Sd G P Q n + dl (F P) (G P) - dl (F Q) (G Q) := by
 have e := isum_tel (fun i => dl (F (wayT P Q (prt n i))) (G (wayT P Q (prt n i)))) n
 rw [prt_zero, prt_all hn, wayT_zero, wayT_one] at e
 have : Sd F P Q n = isum (fun i => dl (G (wayT P Q (prt n i))) (G (wayT P Q (prt n (i + 1)))) + (dl (F (wayT P Q (prt n i))) (G (wayT P Q (prt n i))) - dl (F (wayT P Q (prt n (i + 1)))) (G (wayT P Q (prt n (i + 1)))))) n := by
  refine isum_congr (fun i hi => ?_)
  have a := dl_add (hF i hi) (hFG _ (prt_nonneg hn (i + 1)) (prt_le hn (by omega)))
  have b := dl_add (hFG _ (prt_nonneg hn i) (prt_le hn (show i ≤ n by omega))) (hG i hi)
  omega
 rw [this, isum_add, e]; unfold Sd; omega
def Wn (F : Cx → Cx) (lo hi : Cx) (n : Nat) : Int := Sd F lo (hi.1, lo.2) n + Sd F (hi.1, lo.2) hi n + Sd F hi (lo.1, hi.2) n + Sd F (lo.1, hi.2) lo n
def Bord (F : Cx → Cx) (lo hi : Cx) : Prop := LowC (fun t => F (wayT lo (hi.1, lo.2) t)) ∧ LowC (fun t => F (wayT (hi.1, lo.2) hi t)) ∧ LowC (fun t => F (wayT hi (lo.1, hi.2) t)) ∧ LowC (fun t => F (wayT (lo.1, hi.2) lo t))
def ClsW (F : Cx → Cx) (lo hi : Cx) (n : Nat) : Prop := 1 ≤ n ∧ Cls F lo (hi.1, lo.2) n ∧ Cls F (hi.1, lo.2) hi n ∧ Cls F hi (lo.1, hi.2) n ∧ Cls F (lo.1, hi.2) lo n
theorem Bord.cls {k : Nat} {F : Cx → Cx} {lo hi : Cx} (hF : PC k F) (h : Bord F lo hi) : ∃ N, ∀ n, N ≤ n → ClsW F lo hi n := by
 obtain ⟨h1, h2, h3, h4⟩ := h; obtain ⟨N1, a1, b1⟩ := hF.cls h1; obtain ⟨N2, a2, b2⟩ := hF.cls h2; obtain ⟨N3, a3, b3⟩ := hF.cls h3; obtain ⟨N4, a4, b4⟩ := hF.cls h4; exact ⟨N1 + N2 + N3 + N4, fun n hn => ⟨by omega, b1 n (by omega), b2 n (by omega), b3 n (by omega), b4 n (by omega)⟩⟩
theorem Wn_mul {F G : Cx → Cx} {lo hi : Cx} {n : Nat} (hF : ClsW F lo hi n) (hG : ClsW G lo hi n) : Wn (fun z => tim (F z) (G z)) lo hi n = Wn F lo hi n + Wn G lo hi n := by
 obtain ⟨h0, h1, h2, h3, h4⟩ := hF; obtain ⟨-, k1, k2, k3, k4⟩ := hG; unfold Wn; rw [Sd_mul h0 h1 k1, Sd_mul h0 h2 k2, Sd_mul h0 h3 k3, Sd_mul h0 h4 k4]; omega
theorem Wn_four {F : Cx → Cx} {lo hi : Cx} {n : Nat} (hF : ClsW F lo hi n) : ∃ k, Wn F lo hi n = 4 * k := by
 obtain ⟨h0, h1, h2, h3, h4⟩ := hF; obtain ⟨a, ha⟩ := Sd_pha h0 h1; obtain ⟨b, hb⟩ := Sd_pha h0 h2; obtain ⟨c, hc⟩ := Sd_pha h0 h3; obtain ⟨d, hd⟩ := Sd_pha h0 h4; exact ⟨a + b + c + d, by unfold Wn; rw [ha, hb, hc, hd]; omega⟩
theorem Wn_near {F G : Cx → Cx} {lo hi : Cx} {n : Nat} (hF : ClsW F lo hi n) (hG : ClsW G lo hi n) (h : ∀ t, 0 ≤ t → t ≤ 1 → 0 < dot (F (wayT lo (hi.1, lo.2) t)) (G (wayT lo (hi.1, lo.2) t)) ∧ 0 < dot (F (wayT (hi.1, lo.2) hi t)) (G (wayT (hi.1, lo.2) hi t)) ∧ 0 < dot (F (wayT hi (lo.1, hi.2) t)) (G (wayT hi (lo.1, hi.2) t)) ∧ 0 < dot (F (wayT (lo.1, hi.2) lo t)) (G (wayT (lo.1, hi.2) lo t))) :
 Wn F lo hi n = Wn G lo hi n := by
 obtain ⟨h0, h1, h2, h3, h4⟩ := hF; obtain ⟨-, k1, k2, k3, k4⟩ := hG; unfold Wn; rw [Sd_near h0 h1 k1 (fun t a b => (h t a b).1), Sd_near h0 h2 k2 (fun t a b => (h t a b).2.1), Sd_near h0 h3 k3 (fun t a b => (h t a b).2.2.1), Sd_near h0 h4 k4 (fun t a b => (h t a b).2.2.2)]
 omega
theorem sgn_mono {x y : Qt} (h : x ≤ y) : sgn x ≤ sgn y := by
 rcases sgn_cases x with ⟨h1, e1⟩ | ⟨h1, e1⟩ | ⟨h1, e1⟩ <;> rcases sgn_cases y with ⟨h2, e2⟩ | ⟨h2, e2⟩ | ⟨h2, e2⟩ <;> rw [e1, e2] <;> first | decide | (exfalso; grind)
theorem Sd_line (a P Q : Cx) {n : Nat} (hn : 1 ≤ n) : Sd (fun z => mns z a) P Q n = dl (mns P a) (mns Q a) := by
 have hpos : 0 < prt n 1 := by
  have p := nat_pos hn; have k := prt_mul hn 1; have e1 : ((1 : Nat) : Qt) = 1 := rfl; rcases Rat.le_iff_lt_or_eq.1 (prt_nonneg hn 1) with q | q
  · exact q
  · rw [← q] at k; grind
 have hc : ∀ i, crs (mns (wayT P Q (prt n i)) a) (mns (wayT P Q (prt n (i + 1))) a) = prt n 1 * crs (mns P a) (mns Q a) := by
  intro i; rw [prt_step hn i]; unfold crs mns wayT
  grind
 unfold Sd dl
 have e : ∀ i, sgn (crs (mns (wayT P Q (prt n i)) a) (mns (wayT P Q (prt n (i + 1))) a)) = sgn (crs (mns P a) (mns Q a)) := by
  intro i; rw [hc, sgn_mul, sgn_pos hpos]; omega
 have mulsum : ∀ (c : Int) (f : Nat → Int) (n : Nat), isum (fun i => c * f i) n = c * isum f n := by
  intro c f n
  induction n with
  | zero => rw [isum, isum]; omega
  | succ n ih => rw [isum, isum, ih]; grind
 rw [isum_congr (f := fun i => sgn (crs (mns P a) (mns Q a)) * far (sgn (mns (wayT P Q (prt n (i + 1))) a).2) (sgn (mns (wayT P Q (prt n i)) a).2)) (fun i _ => by rw [e]), mulsum]
 congr 1
 have hstep : ∀ i, (mns (wayT P Q (prt n (i + 1))) a).2 = (mns (wayT P Q (prt n i)) a).2 + prt n 1 * (Q.2 - P.2) := by
  intro i; rw [prt_step hn i]; unfold mns wayT
  grind
 have e0 : mns (wayT P Q (prt n 0)) a = mns P a := by rw [prt_zero, wayT_zero]
 have en : mns (wayT P Q (prt n n)) a = mns Q a := by rw [prt_all hn, wayT_one]
 rcases Rat.le_total (a := P.2) (b := Q.2) with k | k
 · have t := isum_tel (fun i => -sgn (mns (wayT P Q (prt n i)) a).2) n
   rw [e0, en] at t; rw [isum_congr (f := fun i => -sgn (mns (wayT P Q (prt n i)) a).2 - -sgn (mns (wayT P Q (prt n (i + 1))) a).2) (fun i _ => ?_), t]
   · have := sgn_mono (x := (mns P a).2) (y := (mns Q a).2) (by unfold mns; grind)
     unfold far; omega
   · have := Rat.mul_nonneg (Rat.le_of_lt hpos) (show 0 ≤ Q.2 - P.2 by grind)
     have := sgn_mono (x := (mns (wayT P Q (prt n i)) a).2) (y := (mns (wayT P Q (prt n (i + 1))) a).2) (by rw [hstep]; grind)
     unfold far; omega
 · have t := isum_tel (fun i => sgn (mns (wayT P Q (prt n i)) a).2) n
   rw [e0, en] at t; rw [isum_congr (f := fun i => sgn (mns (wayT P Q (prt n i)) a).2 - sgn (mns (wayT P Q (prt n (i + 1))) a).2) (fun i _ => ?_), t]
   · have := sgn_mono (x := (mns Q a).2) (y := (mns P a).2) (by unfold mns; grind)
     unfold far; omega
   · have := Rat.mul_nonneg (Rat.le_of_lt hpos) (show 0 ≤ P.2 - Q.2 by grind)
     have := sgn_mono (x := (mns (wayT P Q (prt n (i + 1))) a).2) (y := (mns (wayT P Q (prt n i)) a).2) (by rw [hstep]; grind)
     unfold far; omega
theorem Wn_line {a lo hi : Cx} {n : Nat} (hn : 1 ≤ n) (h1 : lo.1 < hi.1) (h2 : lo.2 < hi.2) : Wn (fun z => mns z a) lo hi n = (sgn (hi.1 - a.1) - sgn (lo.1 - a.1)) * far (sgn (hi.2 - a.2)) (sgn (lo.2 - a.2)) := by
 unfold Wn; rw [Sd_line _ _ _ hn, Sd_line _ _ _ hn, Sd_line _ _ _ hn, Sd_line _ _ _ hn]; have s1 : dl (mns lo a) (mns (hi.1, lo.2) a) = 0 := dl_up rfl; have s3 : dl (mns hi a) (mns (lo.1, hi.2) a) = 0 := dl_up rfl; rw [s1, s3]; have c2 : crs (mns (hi.1, lo.2) a) (mns hi a) = (hi.1 - a.1) * (hi.2 - lo.2) := by unfold crs mns; grind
 have c4 : crs (mns (lo.1, hi.2) a) (mns lo a) = -((lo.1 - a.1) * (hi.2 - lo.2)) := by unfold crs mns; grind
 unfold dl; rw [c2, c4, sgn_minus, sgn_mul, sgn_mul, sgn_pos (show 0 < hi.2 - lo.2 by grind)]
 show 0 + sgn (hi.1 - a.1) * 1 * far (sgn (hi.2 - a.2)) (sgn (lo.2 - a.2)) + 0 + -(sgn (lo.1 - a.1) * 1) * far (sgn (lo.2 - a.2)) (sgn (hi.2 - a.2)) = _
 rw [show far (sgn (lo.2 - a.2)) (sgn (hi.2 - a.2)) = far (sgn (hi.2 - a.2)) (sgn (lo.2 - a.2)) by unfold far; omega]
 grind
theorem Wn_in {a lo hi : Cx} {n : Nat} (hn : 1 ≤ n) (h1 : lo.1 < a.1) (h2 : a.1 < hi.1) (h3 : lo.2 < a.2) (h4 : a.2 < hi.2) : Wn (fun z => mns z a) lo hi n = 4 := by
 rw [Wn_line hn (by grind) (by grind), sgn_pos (by grind), sgn_neg (by grind), sgn_pos (by grind), sgn_neg (by grind)]
 rfl
end Go.Proofs.YthjeejnggpjnjaaGreatDoor
