/- A part: FE, FF, DR, DS, FG. -/
import Derived.Test.YthjeejnggpjnjaaGreatDoorZP05
set_option linter.unusedSimpArgs false
set_option linter.unusedVariables false
set_option maxRecDepth 100000
set_option maxHeartbeats 16000000
set_option synthInstance.maxHeartbeats 2000000
set_option synthInstance.maxSize 100000
namespace Go.Proofs.YthjeejnggpjnjaaGreatDoor
open Go.RowKit
set_option maxRecDepth 100000
def Box (lo hi z : Cx) : Prop := (lo.1 ≤ z.1 ∧ z.1 ≤ hi.1) ∧ (lo.2 ≤ z.2 ∧ z.2 ≤ hi.2)
def grd (lo hi : Cx) (n i j : Nat) : Cx := (lo.1 + prt n i * (hi.1 - lo.1), lo.2 + prt n j * (hi.2 - lo.2))
theorem grd_box {lo hi : Cx} {n i j : Nat} (hn : 1 ≤ n) (h1 : lo.1 ≤ hi.1) (h2 : lo.2 ≤ hi.2) (hi' : i ≤ n) (hj : j ≤ n) : Box lo hi (grd lo hi n i j) := by
 have a0 := prt_nonneg hn i; have a1 := prt_le hn hi'; have b0 := prt_nonneg hn j; have b1 := prt_le hn hj; have c0 := Rat.mul_nonneg a0 (show 0 ≤ hi.1 - lo.1 by grind)
 have c1 := Rat.mul_le_mul_of_nonneg_right a1 (show 0 ≤ hi.1 - lo.1 by grind)
 have d0 := Rat.mul_nonneg b0 (show 0 ≤ hi.2 - lo.2 by grind)
 have d1 := Rat.mul_le_mul_of_nonneg_right b1 (show 0 ≤ hi.2 - lo.2 by grind)
 exact ⟨⟨by unfold grd; grind, by unfold grd; grind⟩, ⟨by unfold grd; grind, by unfold grd; grind⟩⟩
theorem box_inB (lo hi : Cx) : ∃ R : Qt, ∀ z, Box lo hi z → InB R z := by
 obtain ⟨R1, r1, h1⟩ := inB_of lo; obtain ⟨R2, r2, h2⟩ := inB_of hi; refine ⟨R1 + R2, fun z hz => ?_⟩
 obtain ⟨⟨a, b⟩, ⟨c, d⟩⟩ := hz; obtain ⟨⟨a1, b1⟩, ⟨c1, d1⟩⟩ := h1; obtain ⟨⟨a2, b2⟩, ⟨c2, d2⟩⟩ := h2; exact ⟨⟨by grind, by grind⟩, ⟨by grind, by grind⟩⟩
theorem isum_swap (f : Nat → Nat → Int) (g : Nat → Nat → Int) (n : Nat) (h : ∀ i j, i < n → j < n → f i j + g (i + 1) j = g i j + f i (j + 1)) :
 isum (fun i => f i 0) n + isum (fun j => g n j) n = isum (fun j => g 0 j) n + isum (fun i => f i n) n := by
 have row : ∀ j, j < n → ∀ k, k ≤ n → isum (fun i => f i j) k + g k j = g 0 j + isum (fun i => f i (j + 1)) k := by
  intro j hj k
  induction k with
  | zero => intro _; rw [isum, isum]; omega
  | succ k ih =>
    intro hk; have a := ih (by omega)
    have b := h k j (by omega) hj
    rw [isum, isum]; omega
 have all : ∀ j, j ≤ n → isum (fun i => f i 0) n + isum (fun j => g n j) j = isum (fun j => g 0 j) j + isum (fun i => f i j) n := by
  intro j
  induction j with
  | zero => intro _; rw [isum, isum]; omega
  | succ j ih =>
    intro hj; have a := ih (by omega)
    have b := row j (by omega) n (Nat.le_refl _)
    rw [isum, isum]; omega
 exact all n (Nat.le_refl _)
theorem Wn_none {k : Nat} {F : Cx → Cx} {lo hi : Cx} (hF : PC k F) (h1 : lo.1 ≤ hi.1) (h2 : lo.2 ≤ hi.2) {m : Qt} (hm : 0 < m) (hl : ∀ z, Box lo hi z → m ≤ nrm (F z)) : ∃ N, ∀ n, N ≤ n → Wn F lo hi n = 0 := by
 obtain ⟨R, hR⟩ := box_inB lo hi; obtain ⟨L, B, hL, hB, h⟩ := hF.lip R; obtain ⟨N, hN, hs⟩ := prt_small (Rat.mul_nonneg hL (nrm_nonneg (mns hi lo))) hm; refine ⟨N, fun n hn => ?_⟩
 have hn1 : 1 ≤ n := by omega
 have near : ∀ z w, Box lo hi z → Box lo hi w → nrm (mns z w) ≤ prt n 1 * prt n 1 * nrm (mns hi lo) → 0 < dot (F z) (F w) := by
  intro z w hz hw hzw; refine dot_close ?_
  have a := (h z w (hR z hz) (hR w hw)).2; have b := Rat.mul_le_mul_of_nonneg_left hzw hL; have c := hl z hz; have d := nrm_nonneg (F w); have := hs n hn
  grind
 have hp := prt_nonneg hn1 1
 have hor : ∀ i j, i < n → j ≤ n → 0 < dot (F (grd lo hi n i j)) (F (grd lo hi n (i + 1) j)) := by
  intro i j hi' hj; refine near _ _ (grd_box hn1 h1 h2 (by omega) hj) (grd_box hn1 h1 h2 (by omega) hj) ?_
  have e : nrm (mns (grd lo hi n i j) (grd lo hi n (i + 1) j)) = prt n 1 * prt n 1 * ((hi.1 - lo.1) * (hi.1 - lo.1)) := by
   unfold nrm mns grd; rw [prt_step hn1 i]; grind
  rw [e]; refine Rat.mul_le_mul_of_nonneg_left ?_ (sq_nonneg _)
  have := sq_nonneg (hi.2 - lo.2); unfold nrm mns; grind
 have ver : ∀ i j, i ≤ n → j < n → 0 < dot (F (grd lo hi n i j)) (F (grd lo hi n i (j + 1))) := by
  intro i j hi' hj; refine near _ _ (grd_box hn1 h1 h2 hi' (by omega)) (grd_box hn1 h1 h2 hi' (by omega)) ?_
  have e : nrm (mns (grd lo hi n i j) (grd lo hi n i (j + 1))) = prt n 1 * prt n 1 * ((hi.2 - lo.2) * (hi.2 - lo.2)) := by
   unfold nrm mns grd; rw [prt_step hn1 j]; grind
  rw [e]; refine Rat.mul_le_mul_of_nonneg_left ?_ (sq_nonneg _)
  have := sq_nonneg (hi.1 - lo.1); unfold nrm mns; grind
 have S := isum_swap (fun i j => dl (F (grd lo hi n i j)) (F (grd lo hi n (i + 1) j))) (fun i j => dl (F (grd lo hi n i j)) (F (grd lo hi n i (j + 1)))) n (fun i j hi' hj => by
  show dl _ _ + dl _ _ = dl _ _ + dl _ _
  rw [dl_add (hor i j hi' (by omega)) (ver (i + 1) j (by omega) hj), dl_add (ver i j (by omega) hj) (hor i (j + 1) hi' (by omega))])
 unfold Wn; rw [Sd_rev F (lo.1, hi.2) hi hn1, Sd_rev F lo (lo.1, hi.2) hn1]
 have e1 : Sd F lo (hi.1, lo.2) n = isum (fun i => dl (F (grd lo hi n i 0)) (F (grd lo hi n (i + 1) 0))) n := by
  refine isum_congr (fun i _ => ?_)
  have : ∀ i, wayT lo (hi.1, lo.2) (prt n i) = grd lo hi n i 0 := by intro i; unfold wayT grd; rw [prt_zero]; ext <;> grind
  rw [this, this]
 have e2 : Sd F (hi.1, lo.2) hi n = isum (fun j => dl (F (grd lo hi n n j)) (F (grd lo hi n n (j + 1)))) n := by
  refine isum_congr (fun i _ => ?_)
  have : ∀ i, wayT (hi.1, lo.2) hi (prt n i) = grd lo hi n n i := by intro i; unfold wayT grd; rw [prt_all hn1]; ext <;> grind
  rw [this, this]
 have e3 : Sd F (lo.1, hi.2) hi n = isum (fun i => dl (F (grd lo hi n i n)) (F (grd lo hi n (i + 1) n))) n := by
  refine isum_congr (fun i _ => ?_)
  have : ∀ i, wayT (lo.1, hi.2) hi (prt n i) = grd lo hi n i n := by intro i; unfold wayT grd; rw [prt_all hn1]; ext <;> grind
  rw [this, this]
 have e4 : Sd F lo (lo.1, hi.2) n = isum (fun j => dl (F (grd lo hi n 0 j)) (F (grd lo hi n 0 (j + 1)))) n := by
  refine isum_congr (fun i _ => ?_)
  have : ∀ i, wayT lo (lo.1, hi.2) (prt n i) = grd lo hi n 0 i := by intro i; unfold wayT grd; rw [prt_zero]; ext <;> grind
  rw [this, this]
 rw [e1, e2, e3, e4]; omega
theorem bord_at {F : Cx → Cx} {lo hi : Cx} (h : Bord F lo hi) (h1 : lo.1 < hi.1) (h2 : lo.2 < hi.2) : ∃ m : Qt, 0 < m ∧ ∀ z, Box lo hi z → (z.1 = lo.1 ∨ z.1 = hi.1 ∨ z.2 = lo.2 ∨ z.2 = hi.2) → m ≤ nrm (F z) := by
 obtain ⟨⟨m1, a1, b1⟩, ⟨m2, a2, b2⟩, ⟨m3, a3, b3⟩, ⟨m4, a4, b4⟩⟩ := h; obtain ⟨p, p0, p1, p2⟩ := min_pos a1 a2; obtain ⟨q, q0, q1, q2⟩ := min_pos a3 a4; obtain ⟨m, m0, c1, c2⟩ := min_pos p0 q0; refine ⟨m, m0, fun z hz hb => ?_⟩
 obtain ⟨⟨z1, z2⟩, ⟨z3, z4⟩⟩ := hz
 have tm : ∀ x y w : Qt, x < y → x ≤ w → w ≤ y → ∃ t : Qt, 0 ≤ t ∧ t ≤ 1 ∧ x + t * (y - x) = w := by
  intro x y w hxy h1 h2; have hp : 0 < y - x := by grind
  have e : (w - x) / (y - x) * (y - x) = w - x := Rat.div_mul_cancel (by grind)
  exact ⟨(w - x) / (y - x), Rat.le_of_mul_le_mul_right (c := y - x) (by grind) hp, Rat.le_of_mul_le_mul_right (c := y - x) (by grind) hp, by grind⟩
 rcases hb with e | e | e | e
 · obtain ⟨t, t0, t1, ht⟩ := tm lo.2 hi.2 z.2 h2 z3 z4; have k := b4 (1 - t) (by grind) (by grind)
   have : wayT (lo.1, hi.2) lo (1 - t) = z := by rw [wayT_rev]; unfold wayT; ext <;> grind
   have k' : m4 ≤ nrm (F (wayT (lo.1, hi.2) lo (1 - t))) := k; rw [this] at k'
   grind
 · obtain ⟨t, t0, t1, ht⟩ := tm lo.2 hi.2 z.2 h2 z3 z4; have k := b2 t t0 t1; have : wayT (hi.1, lo.2) hi t = z := by unfold wayT; ext <;> grind
   have k' : m2 ≤ nrm (F (wayT (hi.1, lo.2) hi t)) := k; rw [this] at k'
   grind
 · obtain ⟨t, t0, t1, ht⟩ := tm lo.1 hi.1 z.1 h1 z1 z2; have k := b1 t t0 t1; have : wayT lo (hi.1, lo.2) t = z := by unfold wayT; ext <;> grind
   have k' : m1 ≤ nrm (F (wayT lo (hi.1, lo.2) t)) := k; rw [this] at k'
   grind
 · obtain ⟨t, t0, t1, ht⟩ := tm lo.1 hi.1 z.1 h1 z1 z2; have k := b3 (1 - t) (by grind) (by grind)
   have : wayT hi (lo.1, hi.2) (1 - t) = z := by rw [wayT_rev]; unfold wayT; ext <;> grind
   have k' : m3 ≤ nrm (F (wayT hi (lo.1, hi.2) (1 - t))) := k; rw [this] at k'
   grind
theorem way_box {lo hi P Q : Cx} {t : Qt} (hP : Box lo hi P) (hQ : Box lo hi Q) (t0 : 0 ≤ t) (t1 : t ≤ 1) : Box lo hi (wayT P Q t) := by
 have q : ∀ a b p r : Qt, a ≤ p → p ≤ b → a ≤ r → r ≤ b → a ≤ p + t * (r - p) ∧ p + t * (r - p) ≤ b := by
  intro a b p r h1 h2 h3 h4; have x1 := Rat.mul_nonneg t0 (show 0 ≤ r - a by grind)
  have x2 := Rat.mul_nonneg (show 0 ≤ 1 - t by grind) (show 0 ≤ p - a by grind)
  have x3 := Rat.mul_nonneg t0 (show 0 ≤ b - r by grind)
  have x4 := Rat.mul_nonneg (show 0 ≤ 1 - t by grind) (show 0 ≤ b - p by grind)
  constructor <;> grind
 exact ⟨q _ _ _ _ hP.1.1 hP.1.2 hQ.1.1 hQ.1.2, q _ _ _ _ hP.2.1 hP.2.2 hQ.2.1 hQ.2.2⟩
theorem bord_all {lo hi : Cx} (h1 : lo.1 ≤ hi.1) (h2 : lo.2 ≤ hi.2) {S : Cx → Prop} (h : ∀ z, Box lo hi z → (z.1 = lo.1 ∨ z.1 = hi.1 ∨ z.2 = lo.2 ∨ z.2 = hi.2) → S z) (t : Qt) (t0 : 0 ≤ t) (t1 : t ≤ 1) :
 S (wayT lo (hi.1, lo.2) t) ∧ S (wayT (hi.1, lo.2) hi t) ∧ S (wayT hi (lo.1, hi.2) t) ∧ S (wayT (lo.1, hi.2) lo t) := by
 have c0 : Box lo hi lo := ⟨⟨Rat.le_refl, h1⟩, ⟨Rat.le_refl, h2⟩⟩; have c1 : Box lo hi (hi.1, lo.2) := ⟨⟨h1, Rat.le_refl⟩, ⟨Rat.le_refl, h2⟩⟩; have c2 : Box lo hi hi := ⟨⟨h1, Rat.le_refl⟩, ⟨h2, Rat.le_refl⟩⟩; have c3 : Box lo hi (lo.1, hi.2) := ⟨⟨Rat.le_refl, h1⟩, ⟨h2, Rat.le_refl⟩⟩; refine ⟨h _ (way_box c0 c1 t0 t1) (.inr (.inr (.inl ?_))), h _ (way_box c1 c2 t0 t1) (.inr (.inl ?_)), h _ (way_box c2 c3 t0 t1) (.inr (.inr (.inr ?_))), h _ (way_box c3 c0 t0 t1) (.inl ?_)⟩ <;> (unfold wayT; grind)
theorem bord_of {F : Cx → Cx} {lo hi : Cx} (h1 : lo.1 ≤ hi.1) (h2 : lo.2 ≤ hi.2) {m : Qt} (hm : 0 < m) (h : ∀ z, Box lo hi z → (z.1 = lo.1 ∨ z.1 = hi.1 ∨ z.2 = lo.2 ∨ z.2 = hi.2) → m ≤ nrm (F z)) : Bord F lo hi :=
 ⟨⟨m, hm, fun t a b => (bord_all h1 h2 h t a b).1⟩, ⟨m, hm, fun t a b => (bord_all h1 h2 h t a b).2.1⟩, ⟨m, hm, fun t a b => (bord_all h1 h2 h t a b).2.2.1⟩, ⟨m, hm, fun t a b => (bord_all h1 h2 h t a b).2.2.2⟩⟩
theorem pc_mns (a : Cx) : PC 2 (fun z => mns z a) := by
 refine ⟨(-a.1, -a.2), fun _ => (1, 0), ⟨(1, 0), fun _ => (0, 0), fun _ => rfl, fun z => ?_⟩, fun z => ?_⟩
 · unfold pls tim; ext <;> grind
 · unfold mns pls tim; ext <;> grind
theorem Wn_bound {d : Nat} {F : Cx → Cx} {lo hi : Cx} (hF : PC (d + 1) F) (h1 : lo.1 < hi.1) (h2 : lo.2 < hi.2) (hb : Bord F lo hi) : ∃ N, ∀ n, N ≤ n → 0 ≤ Wn F lo hi n ∧ Wn F lo hi n ≤ 4 * (d : Int) := by
 induction d generalizing F with
 | zero =>
   obtain ⟨c, G, k1, k2⟩ := hF; have e : ∀ z, F z = c := by intro z; rw [k2, k1 z]; unfold pls tim; ext <;> grind
   obtain ⟨m, hm, h⟩ := bord_at hb h1 h2
   have hc : m ≤ nrm c := by
    have := h lo ⟨⟨Rat.le_refl, Rat.le_of_lt h1⟩, ⟨Rat.le_refl, Rat.le_of_lt h2⟩⟩ (.inl rfl)
    rwa [e] at this
   obtain ⟨N, hN⟩ := Wn_none (F := F) (k := 1) ⟨c, G, k1, k2⟩ (Rat.le_of_lt h1) (Rat.le_of_lt h2) hm (fun z _ => by rw [e]; exact hc)
   exact ⟨N, fun n hn => by rw [hN n hn]; omega⟩
 | succ d ih =>
   obtain ⟨m, hm, h⟩ := bord_at hb h1 h2; by_cases hz : ∃ a, Box lo hi a ∧ nrm (F a) < m / 4
   · obtain ⟨a, ha, hFa⟩ := hz; obtain ⟨G, hG, hdiv⟩ := hF.div a
     -- a lies inside
     have hin : lo.1 < a.1 ∧ a.1 < hi.1 ∧ lo.2 < a.2 ∧ a.2 < hi.2 := by
      obtain ⟨⟨z1, z2⟩, ⟨z3, z4⟩⟩ := ha
      have hne : ∀ (P : Prop), (P → a.1 = lo.1 ∨ a.1 = hi.1 ∨ a.2 = lo.2 ∨ a.2 = hi.2) → ¬ P := by
       intro P hP p; have := h a ⟨⟨z1, z2⟩, ⟨z3, z4⟩⟩ (hP p)
       grind
      have n1 := hne (a.1 = lo.1) (fun k => .inl k)
      have n2 := hne (a.1 = hi.1) (fun k => .inr (.inl k))
      have n3 := hne (a.2 = lo.2) (fun k => .inr (.inr (.inl k)))
      have n4 := hne (a.2 = hi.2) (fun k => .inr (.inr (.inr k)))
      refine ⟨?_, ?_, ?_, ?_⟩ <;> grind
     -- what is left when F a is taken away
     have hT : ∀ z, tim (mns z a) (G z) = mns (F z) (F a) := by
      intro z; rw [hdiv z]; unfold mns pls
      ext <;> grind
     have hTlow : ∀ z, Box lo hi z → (z.1 = lo.1 ∨ z.1 = hi.1 ∨ z.2 = lo.2 ∨ z.2 = hi.2) → m / 4 ≤ nrm (mns (F z) (F a)) := by
      intro z hz hb; have k := h z hz hb
      -- F z = (F z - F a) + F a
      have e : F z = pls (mns (F z) (F a)) (F a) := by unfold mns pls; ext <;> grind
      have := nrm_pls (mns (F z) (F a)) (F a); rw [← e] at this
      grind
     obtain ⟨R, hR⟩ := box_inB lo hi; have hRa := hR a ha
     -- the other factor stands away from nought
     have hGb : Bord G lo hi := by
      have hQ : ∃ B : Qt, 0 < B ∧ ∀ z, Box lo hi z → nrm (mns z a) ≤ B := by
       refine ⟨8 * (R * R) + 1, by have := sq_nonneg R; grind, fun z hz => ?_⟩
       have p := nrm_inB (hR z hz); have q := nrm_inB hRa; have e := nrm_pls z (-a.1, -a.2); have e2 : nrm (-a.1, -a.2) = nrm a := by unfold nrm; grind
       have e3 : pls z (-a.1, -a.2) = mns z a := by unfold pls mns; ext <;> grind
       rw [e2, e3] at e
       grind
      obtain ⟨B, hB, hQ⟩ := hQ; refine bord_of (Rat.le_of_lt h1) (Rat.le_of_lt h2) (m := m / 4 / B) (by rw [Rat.lt_div_iff hB]; grind) (fun z hz hb => ?_)
      have k := hTlow z hz hb; rw [← hT, nrm_tim] at k; have q := Rat.mul_le_mul_of_nonneg_right (hQ z hz) (nrm_nonneg (G z)); refine Rat.le_of_mul_le_mul_left (c := B) ?_ hB
      rw [Rat.mul_comm B, Rat.div_mul_cancel (by grind)]
      grind
     have hLb : Bord (fun z => mns z a) lo hi := by
      -- the least distance to a side
      obtain ⟨p, p0, p1, p2⟩ := min_pos (show 0 < a.1 - lo.1 by grind) (show 0 < hi.1 - a.1 by grind)
      obtain ⟨q, q0, q1, q2⟩ := min_pos (show 0 < a.2 - lo.2 by grind) (show 0 < hi.2 - a.2 by grind)
      obtain ⟨r, r0, r1, r2⟩ := min_pos p0 q0; refine bord_of (Rat.le_of_lt h1) (Rat.le_of_lt h2) (m := r * r) (Rat.mul_pos r0 r0) (fun z hz hb => ?_)
      refine away_sq r0 (a := (mns z a).1) (b := (mns z a).2) ?_
      unfold Away mns
      grind
     have hTb : Bord (fun z => tim (mns z a) (G z)) lo hi := bord_of (Rat.le_of_lt h1) (Rat.le_of_lt h2) (m := m / 4) (by grind) (fun z hz hb => by rw [hT]; exact hTlow z hz hb)
     have pT : PC (d + 2) (fun z => tim (mns z a) (G z)) := by
      obtain ⟨c, g, k1, k2⟩ := hF; refine ⟨(c.1 - (F a).1, c.2 - (F a).2), g, k1, fun z => ?_⟩
      show tim (mns z a) (G z) = _
      rw [hT, k2 z]; unfold mns pls
      ext <;> grind
     obtain ⟨N1, c1⟩ := Bord.cls hF hb; obtain ⟨N2, c2⟩ := Bord.cls pT hTb; obtain ⟨N3, c3⟩ := Bord.cls hG hGb; obtain ⟨N4, c4⟩ := Bord.cls (pc_mns a) hLb; obtain ⟨N5, c5⟩ := ih hG hGb; refine ⟨N1 + N2 + N3 + N4 + N5, fun n hn => ?_⟩
     have k1 := c1 n (by omega)
     have k2 := c2 n (by omega)
     have k3 := c3 n (by omega)
     have k4 := c4 n (by omega)
     have k5 := c5 n (by omega)
     have e1 : Wn F lo hi n = Wn (fun z => tim (mns z a) (G z)) lo hi n := by
      refine Wn_near k1 k2 (fun t t0 t1 => ?_)
      refine bord_all (Rat.le_of_lt h1) (Rat.le_of_lt h2) (S := fun z => 0 < dot (F z) (tim (mns z a) (G z))) (fun z hz hb => ?_) t t0 t1
      rw [hT]; refine dot_close ?_
      have e : mns (F z) (mns (F z) (F a)) = F a := by unfold mns; ext <;> grind
      rw [e]; have := h z hz hb; have := nrm_nonneg (mns (F z) (F a))
      grind
     rw [e1, Wn_mul k4 k3, Wn_in k4.1 hin.1 hin.2.1 hin.2.2.1 hin.2.2.2]; omega
   · obtain ⟨N, hN⟩ := Wn_none hF (Rat.le_of_lt h1) (Rat.le_of_lt h2) (show 0 < m / 4 by grind) (fun z hb => Classical.byContradiction fun k => hz ⟨z, hb, by grind⟩)
     exact ⟨N, fun n hn => by rw [hN n hn]; omega⟩
set_option maxRecDepth 100000
def cofr (c : Nat × Nat) : Cx := (frat c.1, frat c.2)
def hor (l : List Cx) (z : Cx) : Cx := l.foldr (fun c v => pls c (tim z v)) (0, 0)
theorem hor_cons (c : Cx) (l : List Cx) (z : Cx) : hor (c :: l) z = pls c (tim z (hor l z)) := rfl
theorem pc_hor (l : List Cx) : PC l.length (hor l) := by
 induction l with
 | nil => exact fun z => rfl
 | cons c l ih => exact ⟨c, hor l, ih, fun z => rfl⟩
def cv (A : List Cx) (t : Qt) : Cx := (psum (fun k => (A.getD k (0, 0)).1) A.length t, psum (fun k => (A.getD k (0, 0)).2) A.length t)
theorem getD_out {A : List Cx} {k : Nat} (h : A.length ≤ k) : A.getD k (0, 0) = (0, 0) := by
 rw [List.getD_eq_getElem?_getD, List.getElem?_eq_none h]; rfl
theorem nextN_getD (A : List Cx) (F S c : Cx) {k : Nat} (hk : k < A.length + 1) :
 (nextN A F S c).getD k (0, 0) = pls (if k = 0 then c else (0, 0)) (pls (tim (A.getD k (0, 0)) F) (if 1 ≤ k then tim (A.getD (k - 1) (0, 0)) S else (0, 0))) := by
 have r : ∀ k, roundN A F S k = pls (tim (A.getD k (0, 0)) F) (if 1 ≤ k then tim (A.getD (k - 1) (0, 0)) S else (0, 0)) := by
  intro k
  have f : firstN A F k = tim (A.getD k (0, 0)) F := by
   unfold firstN
   split
   · unfold addN mulN tim; ext <;> grind
   · rw [getD_out (by omega)]; unfold tim; ext <;> grind
  unfold roundN; rw [f]
  split
  · rw [if_pos (by omega)]; rfl
  · rw [if_neg (by omega)]; unfold pls; ext <;> grind
 unfold nextN; rcases k with _ | k
 · rw [List.getD_cons_zero, r, if_pos rfl]; unfold addN pls; ext <;> grind
 · rw [List.getD_cons_succ, List.getD_eq_getElem?_getD, List.getElem?_map, List.getElem?_range (by omega)]
   show roundN A F S (k + 1) = _
   rw [r, if_neg (show ¬ k + 1 = 0 by omega)]
   unfold pls; ext <;> grind
theorem psum_first (x : Qt) (n : Nat) (t : Qt) : psum (fun k => if k = 0 then x else 0) (n + 1) t = x := by
 induction n with
 | zero =>
   show (0 : Qt) + x * t ^ 0 = x
   rw [Rat.pow_zero]; grind
 | succ n ih => rw [psum, ih, if_neg (by omega)]; grind
theorem psum_up (f : Nat → Qt) (n : Nat) (t : Qt) : psum (fun k => if 1 ≤ k then f (k - 1) else 0) (n + 1) t = t * psum f n t := by
 have := psum_shift 1 f n t; rw [Nat.add_comm 1 n, Rat.pow_one] at this; exact this
theorem cv_next (A : List Cx) (F S c : Cx) (t : Qt) : cv (nextN A F S c) t = pls c (tim (F.1 + t * S.1, F.2 + t * S.2) (cv A t)) := by
 have e1 : psum (fun k => ((nextN A F S c).getD k (0, 0)).1) (A.length + 1) t = c.1 + ((F.1 * psum (fun k => (A.getD k (0, 0)).1) A.length t + (-F.2) * psum (fun k => (A.getD k (0, 0)).2) A.length t) + t * (S.1 * psum (fun k => (A.getD k (0, 0)).1) A.length t + (-S.2) * psum (fun k => (A.getD k (0, 0)).2) A.length t)) := by
  rw [psum_congr (g := fun k => (if k = 0 then c.1 else 0) + ((F.1 * (A.getD k (0, 0)).1 + (-F.2) * (A.getD k (0, 0)).2) + (if 1 ≤ k then (S.1 * (A.getD (k - 1) (0, 0)).1 + (-S.2) * (A.getD (k - 1) (0, 0)).2) else 0))) (fun k hk => ?_)]
  · rw [psum_add, psum_first, psum_add, psum_up (fun k => S.1 * (A.getD k (0, 0)).1 + (-S.2) * (A.getD k (0, 0)).2), psum_add, psum_add, psum_mul, psum_mul, psum_mul, psum_mul]
    rw [psum_more (n := A.length) (m := A.length + 1) (by omega) (fun i hi => by rw [getD_out hi]), psum_more (n := A.length) (m := A.length + 1) (by omega) (fun i hi => by rw [getD_out hi])]
  · rw [nextN_getD A F S c hk]; unfold pls tim
    split <;> split <;> grind
 have e2 : psum (fun k => ((nextN A F S c).getD k (0, 0)).2) (A.length + 1) t = c.2 + ((F.2 * psum (fun k => (A.getD k (0, 0)).1) A.length t + F.1 * psum (fun k => (A.getD k (0, 0)).2) A.length t) + t * (S.2 * psum (fun k => (A.getD k (0, 0)).1) A.length t + S.1 * psum (fun k => (A.getD k (0, 0)).2) A.length t)) := by
  rw [psum_congr (g := fun k => (if k = 0 then c.2 else 0) + ((F.2 * (A.getD k (0, 0)).1 + F.1 * (A.getD k (0, 0)).2) + (if 1 ≤ k then (S.2 * (A.getD (k - 1) (0, 0)).1 + S.1 * (A.getD (k - 1) (0, 0)).2) else 0))) (fun k hk => ?_)]
  · rw [psum_add, psum_first, psum_add, psum_up (fun k => S.2 * (A.getD k (0, 0)).1 + S.1 * (A.getD k (0, 0)).2), psum_add, psum_add, psum_mul, psum_mul, psum_mul, psum_mul]
    rw [psum_more (n := A.length) (m := A.length + 1) (by omega) (fun i hi => by rw [getD_out hi]), psum_more (n := A.length) (m := A.length + 1) (by omega) (fun i hi => by rw [getD_out hi])]
  · rw [nextN_getD A F S c hk]; unfold pls tim
    split <;> split <;> grind
 unfold cv; rw [nextN_len, e1, e2]; unfold pls tim
 ext <;> grind
theorem cv_along (F S : Cx) (l : List (Nat × Nat)) (t : Qt) : cv (alongN F S l) t = hor (l.map cofr) (F.1 + t * S.1, F.2 + t * S.2) := by
 induction l with
 | nil => rfl
 | cons c l ih =>
   show cv (nextN (alongN F S l) F S (cofr c)) t = _
   rw [cv_next, ih]; rfl
theorem den_lcmD (d : Nat) (r : Qt) : d ∣ lcmD d r ∧ r.den ∣ lcmD d r := by
 unfold lcmD; refine ⟨Nat.dvd_mul_right _ _, ?_⟩
 obtain ⟨k, hk⟩ := Nat.gcd_dvd_left d r.den; obtain ⟨m, hm⟩ := Nat.gcd_dvd_right d r.den; have hg : 0 < Nat.gcd d r.den := Nat.gcd_pos_of_pos_right _ r.den_pos; have e : r.den / Nat.gcd d r.den = m := Nat.div_eq_of_eq_mul_right hg hm; rw [e]; refine ⟨k, ?_⟩
 generalize Nat.gcd d r.den = g at *; rw [hk, hm]
 grind
theorem lcmL_den (l : List Qt) (d : Nat) : d ∣ lcmL d l ∧ ∀ x ∈ l, x.den ∣ lcmL d l := by
 induction l generalizing d with
 | nil => exact ⟨Nat.dvd_refl _, fun x h => by cases h⟩
 | cons y l ih =>
   obtain ⟨h1, h2⟩ := ih (lcmD d y); obtain ⟨k1, k2⟩ := den_lcmD d y; refine ⟨Nat.dvd_trans k1 h1, fun x hx => ?_⟩
   rcases List.mem_cons.1 hx with rfl | hx
   · exact Nat.dvd_trans k2 h1
   · exact h2 x hx
theorem lcmL_ne (l : List Qt) {d : Nat} (hd : d ≠ 0) : lcmL d l ≠ 0 := by
 induction l generalizing d with
 | nil => exact hd
 | cons y l ih => exact ih (d := lcmD d y) (lcmD_pos hd)
theorem wholeI_val {D : Nat} {x : Qt} (h : x.den ∣ D) : ((wholeI D x : Int) : Qt) = (D : Qt) * x := by
 obtain ⟨k, rfl⟩ := h; unfold wholeI; have hd : (x.den : Int) ≠ 0 := by have := x.den_pos; omega
 rw [Int.natCast_mul, Int.mul_tdiv_cancel_left _ hd, Rat.intCast_mul, Rat.natCast_mul]
 have e : x * (x.den : Qt) = (x.num : Qt) := by
  have h0 : ((x.den : Nat) : Qt) ≠ 0 := by
   have : (0 : Qt) < ((x.den : Nat) : Qt) := Rat.natCast_pos.2 x.den_pos
   grind
  have h1 : x = (x.num : Qt) / (x.den : Qt) := by
   rw [← Rat.mkRat_eq_div, Rat.mkRat_self]
  have h2 := Rat.div_mul_cancel (a := (x.num : Qt)) h0; rw [← h1] at h2; exact h2
 rw [← e]; show x * _ * ((k : Nat) : Qt) = _
 grind
theorem evI_whole {D : Nat} {m : List Qt} (h : ∀ x ∈ m, x.den ∣ D) (t : Qt) : evI (cutI (m.map (wholeI D))) t = (D : Qt) * psum (fun k => m.getD k 0) m.length t := by
 rw [evI_cut]; unfold evI; rw [← psum_mul, List.length_map]; refine psum_congr (fun i hi => ?_) t
 unfold cofI; rw [List.getD_eq_getElem?_getD, List.getElem?_map, List.getD_eq_getElem?_getD, List.getElem?_eq_getElem hi]; exact wholeI_val (h _ (List.getElem_mem hi))
theorem side_val (l : List (Nat × Nat)) (lo hi : Nat × Nat) (i : Nat) : ∃ D : Qt, 0 < D ∧ (∀ t, evI (sideX l lo hi i) t = D * (hor (l.map cofr) (wayT (cornerF lo hi i) (cornerF lo hi ((i + 1) % 4)) t)).1) ∧ ∀ t, evI (sideY l lo hi i) t = D * (hor (l.map cofr) (wayT (cornerF lo hi i) (cornerF lo hi ((i + 1) % 4)) t)).2 := by
 have hA : ∀ t, cv (lineF l lo hi i) t = hor (l.map cofr) (wayT (cornerF lo hi i) (cornerF lo hi ((i + 1) % 4)) t) := fun t => cv_along _ _ _ t
 unfold sideX sideY wholeX wholeY; generalize lineF l lo hi i = A at *; have hD : wholeD (A.map Prod.fst) (A.map Prod.snd) ≠ 0 := lcmL_ne _ (lcmL_ne _ (by decide))
 have d1 : ∀ x ∈ A.map Prod.fst, x.den ∣ wholeD (A.map Prod.fst) (A.map Prod.snd) := fun x hx => Nat.dvd_trans ((lcmL_den _ _).2 x hx) (lcmL_den _ _).1
 have d2 : ∀ x ∈ A.map Prod.snd, x.den ∣ wholeD (A.map Prod.fst) (A.map Prod.snd) := fun x hx => (lcmL_den _ _).2 x hx
 refine ⟨((wholeD (A.map Prod.fst) (A.map Prod.snd) : Nat) : Qt), Rat.natCast_pos.2 (Nat.pos_of_ne_zero hD), fun t => ?_, fun t => ?_⟩
 · rw [evI_whole d1, ← hA, List.length_map]
   congr 1
   refine psum_congr (fun k hk => ?_) t
   rw [List.getD_eq_getElem?_getD, List.getElem?_map, List.getD_eq_getElem?_getD, List.getElem?_eq_getElem hk]; rfl
 · rw [evI_whole d2, ← hA, List.length_map]
   congr 1
   refine psum_congr (fun k hk => ?_) t
   rw [List.getD_eq_getElem?_getD, List.getElem?_map, List.getD_eq_getElem?_getD, List.getElem?_eq_getElem hk]; rfl
theorem trim_side (l : List (Nat × Nat)) (lo hi : Nat × Nat) (i : Nat) : Trim (sideX l lo hi i) ∧ Trim (sideY l lo hi i) := ⟨trim_cut _, trim_cut _⟩
theorem touch_bord (l : List (Nat × Nat)) (lo hi : Nat × Nat) : touchT l lo hi 4 = false ↔ Bord (hor (l.map cofr)) (cofr lo) (cofr hi) := by
 have one : ∀ i, sideZ (sideX l lo hi i) (sideY l lo hi i) = false ↔ LowC (fun t => hor (l.map cofr) (wayT (cornerF lo hi i) (cornerF lo hi ((i + 1) % 4)) t)) := by
  intro i; obtain ⟨D, hD, h1, h2⟩ := side_val l lo hi i; exact side_touch (F := fun t => hor (l.map cofr) (wayT (cornerF lo hi i) (cornerF lo hi ((i + 1) % 4)) t)) (trim_side l lo hi i).1 (trim_side l lo hi i).2 hD h1 h2
 have e : touchT l lo hi 4 = false ↔ ∀ i, i < 4 → sideZ (sideX l lo hi i) (sideY l lo hi i) = false := by
  unfold touchT; rw [List.any_eq_false]; exact ⟨fun h i hi' => by simpa using h i (List.mem_range.2 hi'), fun h i hi' => by rw [h i (List.mem_range.1 hi')]; decide⟩
 rw [e]
 constructor
 · intro h; exact ⟨(one 0).1 (h 0 (by omega)), (one 1).1 (h 1 (by omega)), (one 2).1 (h 2 (by omega)), (one 3).1 (h 3 (by omega))⟩
 · rintro ⟨h0, h1, h2, h3⟩ i hi'; rcases i with _ | _ | _ | _ | i
   · exact (one 0).2 h0
   · exact (one 1).2 h1
   · exact (one 2).2 h2
   · exact (one 3).2 h3
   · omega
theorem side_cut (l : List (Nat × Nat)) (lo hi : Nat × Nat) (i : Nat) (h : LowC (fun t => hor (l.map cofr) (wayT (cornerF lo hi i) (cornerF lo hi ((i + 1) % 4)) t))) :
 ∃ (V : Qt → Int) (N : Nat), sideT (sideX l lo hi i) (sideY l lo hi i) = V 0 - V 1 ∧ 1 ≤ N ∧ ∀ n, N ≤ n → ∀ a b, 0 ≤ a → a ≤ b → b ≤ 1 → Sd (hor (l.map cofr)) (wayT (cornerF lo hi i) (cornerF lo hi ((i + 1) % 4)) a) (wayT (cornerF lo hi i) (cornerF lo hi ((i + 1) % 4)) b) n = V a - V b := by
 obtain ⟨D, hD, h1, h2⟩ := side_val l lo hi i; exact side_parts (trim_side l lo hi i).1 (trim_side l lo hi i).2 hD h1 h2 h
theorem side_sum (l : List (Nat × Nat)) (lo hi : Nat × Nat) (i : Nat) (h : LowC (fun t => hor (l.map cofr) (wayT (cornerF lo hi i) (cornerF lo hi ((i + 1) % 4)) t))) :
 ∃ N : Nat, 1 ≤ N ∧ ∀ n, N ≤ n → ∀ c, 0 ≤ c → c ≤ 1 → sideT (sideX l lo hi i) (sideY l lo hi i) = Sd (hor (l.map cofr)) (cornerF lo hi i) (wayT (cornerF lo hi i) (cornerF lo hi ((i + 1) % 4)) c) n + Sd (hor (l.map cofr)) (wayT (cornerF lo hi i) (cornerF lo hi ((i + 1) % 4)) c) (cornerF lo hi ((i + 1) % 4)) n := by
 obtain ⟨V, N, h0, h1, h2⟩ := side_cut l lo hi i h; refine ⟨N, h1, fun n hn c c0 c1 => ?_⟩
 have a := h2 n hn 0 c (by grind) c0 c1
 have b := h2 n hn c 1 c0 c1 (by grind)
 rw [wayT_zero] at a; rw [wayT_one] at b; rw [a, b, h0]; omega
theorem Sd_same (F : Cx → Cx) (P : Cx) (n : Nat) : Sd F P P n = 0 := by
 unfold Sd; have e : ∀ t, wayT P P t = P := by intro t; unfold wayT; ext <;> grind
 rw [isum_congr (f := fun _ => 0) (fun i _ => by rw [e, e, dl_up rfl])]
 induction n with
 | zero => rfl
 | succ n ih => rw [isum, ih]; omega
theorem sum_turn (l : List (Nat × Nat)) (lo hi : Nat × Nat) (h : Bord (hor (l.map cofr)) (cofr lo) (cofr hi)) : ∃ N, ∀ n, N ≤ n → sumT l lo hi 4 = Wn (hor (l.map cofr)) (cofr lo) (cofr hi) n := by
 obtain ⟨h0, h1, h2, h3⟩ := h; obtain ⟨N0, p0, q0⟩ := side_sum l lo hi 0 h0; obtain ⟨N1, p1, q1⟩ := side_sum l lo hi 1 h1; obtain ⟨N2, p2, q2⟩ := side_sum l lo hi 2 h2; obtain ⟨N3, p3, q3⟩ := side_sum l lo hi 3 h3; refine ⟨N0 + N1 + N2 + N3, fun n hn => ?_⟩
 have a0 := q0 n (by omega) 0 (by grind) (by grind)
 have a1 := q1 n (by omega) 0 (by grind) (by grind)
 have a2 := q2 n (by omega) 0 (by grind) (by grind)
 have a3 := q3 n (by omega) 0 (by grind) (by grind)
 rw [wayT_zero, Sd_same, Int.zero_add] at a0 a1 a2 a3; rw [sumT, sumT, sumT, sumT, sumT, a0, a1, a2, a3, Int.zero_add]; rfl
def rhe (A D : Nat) : Nat := A / D + (decide (D < A % D * 2) || (decide (A % D * 2 = D) && decide (A / D % 2 = 1))).toNat
theorem rhe_le (A D : Nat) : rhe A D ≤ A / D + 1 := by
 unfold rhe; have : ∀ b : Bool, b.toNat ≤ 1 := by decide
 have := this (decide (D < A % D * 2) || (decide (A % D * 2 = D) && decide (A / D % 2 = 1))); omega
theorem rhe_ge (A D : Nat) : A / D ≤ rhe A D := by unfold rhe; omega
theorem rhe_mono {A D A' D' : Nat} (hD : 0 < D) (hD' : 0 < D') (h : A * D' ≤ A' * D) : rhe A D ≤ rhe A' D' := by
 have e := Nat.div_add_mod A D; have e' := Nat.div_add_mod A' D'; have hr := Nat.mod_lt A hD; have hr' := Nat.mod_lt A' hD'; have u1 := rhe_le A D; have u2 := rhe_ge A' D'; unfold rhe at *; generalize A / D = n at *; generalize A' / D' = n' at *; generalize A % D = r at *; generalize A' % D' = r' at *; subst e e'; have h1 : D * n * D' = n * (D * D') := by grind
 have h2 : D' * n' * D = n' * (D * D') := by grind
 rw [Nat.add_mul, Nat.add_mul, h1, h2] at h; have p : 0 < D * D' := Nat.mul_pos hD hD'; have q' : r' * D < D * D' := by rw [Nat.mul_comm D D']; exact Nat.mul_lt_mul_of_pos_right hr' hD
 rcases Nat.lt_trichotomy n n' with hn | hn | hn
 · omega
 · subst hn; have h3 : r * D' ≤ r' * D := by omega
   refine Nat.add_le_add_left ?_ _
   by_cases c1 : D < r * 2
   · have : D' < r' * 2 := by
      rcases Nat.lt_or_ge D' (r' * 2) with c | c
      · exact c
      · have a1 : D * D' < r * 2 * D' := Nat.mul_lt_mul_of_pos_right c1 hD'; have a2 : r' * 2 * D ≤ D' * D := Nat.mul_le_mul_right _ c; have a3 : r * 2 * D' = 2 * (r * D') := by grind
        have a4 : r' * 2 * D = 2 * (r' * D) := by grind
        rw [Nat.mul_comm D' D] at a2; omega
     rw [decide_eq_true this]; simp only [Bool.true_or, Bool.toNat_true]; exact Bool.toNat_le _
   · rw [decide_eq_false c1, Bool.false_or]; by_cases c2 : r * 2 = D ∧ n % 2 = 1
     · have : D' ≤ r' * 2 := by
        rcases Nat.lt_or_ge (r' * 2) D' with c | c
        · have a1 : D * D' = r * 2 * D' := by rw [c2.1]
          have a2 : r' * 2 * D < D' * D := Nat.mul_lt_mul_of_pos_right c hD; have a3 : r * 2 * D' = 2 * (r * D') := by grind
          have a4 : r' * 2 * D = 2 * (r' * D) := by grind
          rw [Nat.mul_comm D' D] at a2; omega
        · exact c
       rcases Nat.lt_or_ge D' (r' * 2) with c | c
       · rw [decide_eq_true c]; simp only [Bool.true_or, Bool.toNat_true]; exact Bool.toNat_le _
       · rw [decide_eq_true (show r' * 2 = D' by omega), decide_eq_true c2.2, decide_eq_true c2.1]
         simp
     · have : (decide (r * 2 = D) && decide (n % 2 = 1)) = false := by
        rw [Bool.and_eq_false_iff, decide_eq_false_iff_not, decide_eq_false_iff_not]; by_cases x : r * 2 = D
        · exact Or.inr (fun y => c2 ⟨x, y⟩)
        · exact Or.inl x
       rw [this]; exact Nat.zero_le _
 · exfalso
   have : (n' + 1) * (D * D') ≤ n * (D * D') := Nat.mul_le_mul_right _ hn; rw [Nat.add_mul] at this; omega
theorem rhe_scale {A D k : Nat} (hD : 0 < D) (hk : 0 < k) : rhe (A * k) (D * k) = rhe A D := by
 refine Nat.le_antisymm (rhe_mono (Nat.mul_pos hD hk) hD ?_) (rhe_mono hD (Nat.mul_pos hD hk) ?_)
 · exact Nat.le_of_eq (by grind)
 · exact Nat.le_of_eq (by grind)
theorem rhe_exact {n D : Nat} (hD : 0 < D) : rhe (n * D) D = n := by
 unfold rhe; rw [Nat.mul_div_cancel _ hD, Nat.mul_mod_left, decide_eq_false (by omega), decide_eq_false (by omega)]
 rfl
def uA (a : Nat) (u : Int) : Nat := a * 2 ^ (-u).toNat
def uD (d : Nat) (u : Int) : Nat := d * 2 ^ u.toNat
def Fits (a d : Nat) (u : Int) : Prop := -1074 ≤ u ∧ uA a u < 9007199254740992 * uD d u ∧ (u = -1074 ∨ 4503599627370496 * uD d u ≤ uA a u)
theorem uD_pos {d : Nat} (u : Int) (hd : d ≠ 0) : 0 < uD d u := Nat.mul_pos (Nat.pos_of_ne_zero hd) (Nat.pow_pos (by decide))
theorem cmpN_pos (m n : Nat) : decide (0 < cmpN m n) = decide (n < m) := by
 unfold cmpN; by_cases h : m < n
 · rw [if_pos h, decide_eq_false (by omega), decide_eq_false (by omega)]
 · rw [if_neg h]; by_cases h2 : n < m
   · rw [if_pos h2, decide_eq_true (by omega), decide_eq_true h2]
   · rw [if_neg h2, decide_eq_false (by omega), decide_eq_false h2]
theorem cmpN_zero (m n : Nat) : decide (cmpN m n = 0) = decide (m = n) := by
 unfold cmpN; by_cases h : m < n
 · rw [if_pos h, decide_eq_false (by omega), decide_eq_false (by omega)]
 · rw [if_neg h]; by_cases h2 : n < m
   · rw [if_pos h2, decide_eq_false (by omega), decide_eq_false (by omega)]
   · rw [if_neg h2, decide_eq_true (by omega), decide_eq_true (by omega)]
theorem rhe_half (A D : Nat) (hD : 0 < D) : rhe A (D * 2) = A / D / 2 + (decide (A / D % 2 = 1) && (!decide (A % D = 0) || decide (A / D / 2 % 2 = 1))).toNat := by
 unfold rhe; rw [← Nat.div_div_eq_div_mul, Nat.mod_mul]; have hr := Nat.mod_lt A hD; generalize A % D = r at *; generalize A / D = n at *
 congr 1
 congr 1
 rcases Nat.mod_two_eq_zero_or_one n with h | h
 · rw [h, Nat.mul_zero, Nat.add_zero, decide_eq_false (show ¬ D * 2 < r * 2 by omega), decide_eq_false (show ¬ r * 2 = D * 2 by omega)]
   rfl
 · rw [h, Nat.mul_one, decide_eq_true (show (1 : Nat) = 1 from rfl), Bool.true_and]
   by_cases h0 : r = 0
   · subst h0; rw [decide_eq_false (show ¬ D * 2 < (0 + D) * 2 by omega), decide_eq_true (show (0 + D) * 2 = D * 2 by omega), decide_eq_true (show (0 : Nat) = 0 from rfl)]
     rfl
   · rw [decide_eq_true (show D * 2 < (r + D) * 2 by omega), decide_eq_false h0]
     rfl
theorem nA_u (a d : Nat) : nA a d = uA a (nunit a d) := rfl
theorem nD_u (a d : Nat) : nD a d = uD d (nunit a d) := rfl
theorem u_next (a d : Nat) (u : Int) : ∃ k, 0 < k ∧ uA a u = uA a (u + 1) * k ∧ uD d u * 2 = uD d (u + 1) * k := by
 unfold uA uD; by_cases h : 0 ≤ u
 · refine ⟨1, by decide, ?_, ?_⟩
   · rw [show (-u).toNat = 0 by omega, show (-(u + 1)).toNat = 0 by omega, Nat.mul_one, Nat.mul_one]
   · rw [show (u + 1).toNat = u.toNat + 1 by omega, Nat.pow_succ, Nat.mul_one, Nat.mul_assoc]
 · refine ⟨2, by decide, ?_, ?_⟩
   · rw [show (-u).toNat = (-(u + 1)).toNat + 1 by omega, Nat.pow_succ, Nat.mul_assoc]
   · rw [show u.toNat = 0 by omega, show (u + 1).toNat = 0 by omega]
theorem near_spec {a d : Nat} (ha : a ≠ 0) (hd : d ≠ 0) : ∃ u, Fits a d u ∧ nearN a d = (rhe (uA a u) (uD d u), u) := by
 have hp := nD_pos (a := a) hd; unfold nearN nround; have hq := nq_lt ha hd; have hg := nq_ge ha hd; by_cases h : 9007199254740992 ≤ nA a d / nD a d
 · rw [if_pos h, ← rhe_half _ _ hp]; refine ⟨nunit a d + 1, ?_, ?_⟩
   · obtain ⟨k, hk, e1, e2⟩ := u_next a d (nunit a d); rw [← nA_u, ← nD_u] at *; refine ⟨by unfold nunit; omega, ?_, Or.inr ?_⟩
     · rw [Nat.div_lt_iff_lt_mul hp, e1] at hq; have : uA a (nunit a d + 1) * k < 9007199254740992 * uD d (nunit a d + 1) * k := by rw [Nat.mul_assoc, ← e2]; omega
       exact Nat.lt_of_mul_lt_mul_right this
     · rw [Nat.le_div_iff_mul_le hp, e1] at h; have : 4503599627370496 * uD d (nunit a d + 1) * k ≤ uA a (nunit a d + 1) * k := by rw [Nat.mul_assoc, ← e2]; omega
       exact Nat.le_of_mul_le_mul_right this hk
   · obtain ⟨k, hk, e1, e2⟩ := u_next a d (nunit a d); rw [nA_u, nD_u, e1, e2, rhe_scale (uD_pos _ hd) hk]
 · rw [if_neg h, cmpN_pos, cmpN_zero]; refine ⟨nunit a d, ⟨by unfold nunit; omega, ?_, ?_⟩, rfl⟩
   · rw [← nA_u, ← nD_u]; exact (Nat.div_lt_iff_lt_mul hp).1 (by omega)
   · by_cases e : nunit a d = -1074
     · exact Or.inl e
     · refine Or.inr ?_
       rw [← nA_u, ← nD_u]; exact (Nat.le_div_iff_mul_le hp).1 (hg e)
theorem fits_le {a d a' d' : Nat} {u u' : Int} (hd : d ≠ 0) (hd' : d' ≠ 0) (h : a * d' ≤ a' * d) (f : Fits a d u) (f' : Fits a' d' u') : u ≤ u' := by
 by_cases hu : u ≤ u'
 · exact hu
 · exfalso
   obtain ⟨g1, -, g3⟩ := f; obtain ⟨g1', g2', -⟩ := f'; have k1 := g3.resolve_left (by omega)
   unfold uA uD at k1 g2'
   have hpw : 2 ^ u'.toNat * 2 ^ (-u).toNat * 2 ≤ 2 ^ u.toNat * 2 ^ (-u').toNat := by
    rw [← Nat.pow_add, ← Nat.pow_add, ← Nat.pow_succ]; exact Nat.pow_le_pow_right (by decide) (by omega)
   have m0 : 0 < 2 ^ (-u).toNat := Nat.pow_pos (by decide)
   have p0 : 0 < 2 ^ u'.toNat := Nat.pow_pos (by decide)
   generalize 2 ^ u'.toNat = p' at *; generalize 2 ^ (-u).toNat = m at *; generalize 2 ^ u.toNat = p at *; generalize 2 ^ (-u').toNat = m' at *; have s1 : 4503599627370496 * (d * p) * (d' * m') ≤ a * m * (d' * m') := Nat.mul_le_mul_right _ k1; have s2 : a * d' * (m * m') ≤ a' * d * (m * m') := Nat.mul_le_mul_right _ h; have hdm : 0 < d * m := Nat.mul_pos (Nat.pos_of_ne_zero hd) m0; have s3 : a' * m' * (d * m) < 9007199254740992 * (d' * p') * (d * m) := Nat.mul_lt_mul_of_pos_right g2' hdm; have s4 : d * d' * (p' * m * 2) ≤ d * d' * (p * m') := Nat.mul_le_mul_left _ hpw; have e1 : 4503599627370496 * (d * p) * (d' * m') = 4503599627370496 * (d * d' * (p * m')) := by grind
   have e2 : a * m * (d' * m') = a * d' * (m * m') := by grind
   have e3 : a' * m' * (d * m) = a' * d * (m * m') := by grind
   have e4 : 9007199254740992 * (d' * p') * (d * m) = 4503599627370496 * (d * d' * (p' * m * 2)) := by grind
   rw [e1, e2] at s1; rw [e3, e4] at s3; omega
theorem near_of_fits {a d : Nat} {u : Int} (ha : a ≠ 0) (hd : d ≠ 0) (f : Fits a d u) : nearN a d = (rhe (uA a u) (uD d u), u) := by
 obtain ⟨v, fv, e⟩ := near_spec ha hd; have h1 := fits_le hd hd (Nat.le_refl _) f fv; have h2 := fits_le hd hd (Nat.le_refl _) fv f; have : v = u := by omega
 subst this; exact e
theorem fits_hi {a d : Nat} {u : Int} (hd : d ≠ 0) (f : Fits a d u) : rhe (uA a u) (uD d u) ≤ 9007199254740992 := by
 have h1 := (Nat.div_lt_iff_lt_mul (uD_pos u hd)).2 f.2.1; have h2 := rhe_le (uA a u) (uD d u); omega
theorem fits_lo {a d : Nat} {u : Int} (hd : d ≠ 0) (f : Fits a d u) (h : u ≠ -1074) : 4503599627370496 ≤ rhe (uA a u) (uD d u) :=
 Nat.le_trans ((Nat.le_div_iff_mul_le (uD_pos u hd)).2 (f.2.2.resolve_left h)) (rhe_ge _ _)
theorem nfin_mono {a d a' d' : Nat} (ha : a ≠ 0) (hd : d ≠ 0) (ha' : a' ≠ 0) (hd' : d' ≠ 0) (h : a * d' ≤ a' * d) : nfin a d ≤ nfin a' d' := by
 obtain ⟨u, f, e⟩ := near_spec ha hd; obtain ⟨u', f', e'⟩ := near_spec ha' hd'; have hu := fits_le hd hd' h f f'; unfold nfin; rw [e, e']
 dsimp only
 by_cases huu : u = u'
 · subst huu
   have : rhe (uA a u) (uD d u) ≤ rhe (uA a' u) (uD d' u) := by
    refine rhe_mono (uD_pos u hd) (uD_pos u hd') ?_
    unfold uA uD; have := Nat.mul_le_mul_right (2 ^ (-u).toNat * 2 ^ u.toNat) h
    have e1 : a * d' * (2 ^ (-u).toNat * 2 ^ u.toNat) = a * 2 ^ (-u).toNat * (d' * 2 ^ u.toNat) := by
     generalize 2 ^ (-u).toNat = x; generalize 2 ^ u.toNat = y
     grind
    have e2 : a' * d * (2 ^ (-u).toNat * 2 ^ u.toNat) = a' * 2 ^ (-u).toNat * (d * 2 ^ u.toNat) := by
     generalize 2 ^ (-u).toNat = x; generalize 2 ^ u.toNat = y
     grind
    omega
   generalize rhe (uA a u) (uD d u) = n at *; generalize rhe (uA a' u) (uD d' u) = n' at *; by_cases h0 : n = 0
   · rw [if_pos h0]; exact Nat.zero_le _
   · rw [if_neg h0, if_neg (by omega)]
     omega
 · have a1 := fits_hi hd f; have a2 := fits_lo hd' f' (by have := f.1; omega)
   have := f.1; generalize rhe (uA a u) (uD d u) = n at *; generalize rhe (uA a' u') (uD d' u') = n' at *; by_cases h0 : n = 0
   · rw [if_pos h0]; exact Nat.zero_le _
   · rw [if_neg h0, if_neg (by omega)]
     have : (u + 1074).toNat + 1 ≤ (u' + 1074).toNat := by omega
     generalize (u + 1074).toNat = x at *; generalize (u' + 1074).toNat = y at *; omega
theorem nfin_self {a d f p : Nat} (hd : d ≠ 0) (ha : a ≠ 0) (h : a * 2 ^ (1075 - p) = f * 2 ^ (p - 1075) * d) (hp : 1 ≤ p) (hp2 : p < 2047) (hf : f < 9007199254740992) (hf0 : f ≠ 0) (hn : p = 1 ∨ 4503599627370496 ≤ f) : nfin a d = f + (p - 1) * 4503599627370496 := by
 have hA : uA a ((p : Int) - 1075) = f * uD d ((p : Int) - 1075) := by
  unfold uA uD; rw [show (-((p : Int) - 1075)).toNat = 1075 - p by omega, show ((p : Int) - 1075).toNat = p - 1075 by omega, h]
  rw [Nat.mul_assoc, Nat.mul_comm d]
 have hu := uD_pos ((p : Int) - 1075) hd
 have fit : Fits a d ((p : Int) - 1075) := by
  refine ⟨by omega, ?_, ?_⟩
  · rw [hA]; exact Nat.mul_lt_mul_of_pos_right hf hu
  · rcases hn with hn | hn
    · exact Or.inl (by omega)
    · exact Or.inr (by rw [hA]; exact Nat.mul_le_mul_right _ hn)
 unfold nfin; rw [near_of_fits ha hd fit, hA, rhe_exact hu]
 dsimp only
 rw [if_neg hf0, show ((p : Int) - 1075 + 1074).toNat = p - 1 by omega]
 have : (p - 1) * 4503599627370496 ≤ 2045 * 4503599627370496 := Nat.mul_le_mul_right _ (by omega)
 omega
theorem srung_nb (x : _root_.Rat) : srung (nbits x) = if x.num < 0 then -((fmag x : Nat) : Int) else ((fmag x : Nat) : Int) := by
 have h1 := fmag_le x; unfold nbits; by_cases h0 : fmag x = 0
 · rw [if_pos h0, h0, show srung 0 = 0 by decide]
   split <;> rfl
 · rw [if_neg h0, fbits_eq]; unfold srung; by_cases h : x.num < 0
   · rw [if_pos h, if_pos h, if_neg (by omega)]
     omega
   · rw [if_neg h, if_neg h, if_pos (by omega)]
theorem fmag_mono {x y : _root_.Rat} (h : x.num.natAbs * y.den ≤ y.num.natAbs * x.den) : fmag x ≤ fmag y := by
 unfold fmag; by_cases hx : x.num = 0
 · rw [if_pos hx]; exact Nat.zero_le _
 · by_cases hy : y.num = 0
   · exfalso
     rw [hy, show (0 : Int).natAbs = 0 from rfl, Nat.zero_mul] at h
     have := Nat.mul_pos (Int.natAbs_pos.2 hx) y.den_pos; omega
   · rw [if_neg hx, if_neg hy]; exact nfin_mono (fun h => hx (Int.natAbs_eq_zero.1 h)) x.den_nz (fun h => hy (Int.natAbs_eq_zero.1 h)) y.den_nz h
theorem srung_mono {x y : _root_.Rat} (h : x ≤ y) : srung (nbits x) ≤ srung (nbits y) := by
 rw [Rat.le_iff] at h; rw [srung_nb, srung_nb]; have hx := x.den_pos; have hy := y.den_pos; by_cases h1 : x.num < 0
 · by_cases h2 : y.num < 0
   · rw [if_pos h1, if_pos h2]
     have : fmag y ≤ fmag x := by
      refine fmag_mono ?_
      have e1 : ((y.num.natAbs * x.den : Nat) : Int) = -(y.num * (x.den : Int)) := by
       rw [Int.natCast_mul, Int.ofNat_natAbs_of_nonpos (by omega), Int.neg_mul]
      have e2 : ((x.num.natAbs * y.den : Nat) : Int) = -(x.num * (y.den : Int)) := by
       rw [Int.natCast_mul, Int.ofNat_natAbs_of_nonpos (by omega), Int.neg_mul]
      omega
     omega
   · rw [if_pos h1, if_neg h2]; omega
 · by_cases h2 : y.num < 0
   · exfalso
     have p1 : 0 ≤ x.num * (y.den : Int) := Int.mul_nonneg (by omega) (by omega)
     have p2 : y.num * (x.den : Int) < 0 := Int.mul_neg_of_neg_of_pos h2 (by omega)
     omega
   · rw [if_neg h1, if_neg h2]
     have : fmag x ≤ fmag y := by
      refine fmag_mono ?_
      have e1 : ((y.num.natAbs * x.den : Nat) : Int) = y.num * (x.den : Int) := by
       rw [Int.natCast_mul, Int.natAbs_of_nonneg (by omega)]
      have e2 : ((x.num.natAbs * y.den : Nat) : Int) = x.num * (y.den : Int) := by
       rw [Int.natCast_mul, Int.natAbs_of_nonneg (by omega)]
      omega
     omega
theorem sg_zero (b : Bool) : sg b 0 = 0 := by cases b <;> rfl
theorem sg_sign {b : Bool} {m : Nat} (h : 0 < m) : (sg b m < 0) = (b = true) := by
 cases b
 · simp [sg]
 · simp [sg]; omega
theorem mkRat_iff (z z' : Int) {d d' : Nat} (h : d ≠ 0) (h' : d' ≠ 0) : mkRat z d = mkRat z' d' ↔ z * (d' : Int) = z' * (d : Int) := Rat.mkRat_eq_iff h h'
theorem frat_cross (a : Nat) : (frat a).num.natAbs * 2 ^ (1075 - fpow a) = fnum a * 2 ^ (fpow a - 1075) * (frat a).den := by
 have h := mkRat_iff (frat a).num (sg (fneg a) (fnum a * 2 ^ (fpow a - 1075))) (frat a).den_nz (two_ne (1075 - fpow a)); rw [Rat.mkRat_self] at h; have h2 := congrArg Int.natAbs (h.1 rfl); rw [Int.natAbs_mul, Int.natAbs_mul, Int.natAbs_natCast, Int.natAbs_natCast, sg_abs] at h2; exact h2
theorem frat_num_zero (a : Nat) : ((frat a).num = 0) = (fnum a = 0) := by
 refine propext ⟨fun h => ?_, fun h => ?_⟩
 · have e := frat_cross a; rw [h, show (0 : Int).natAbs = 0 from rfl, Nat.zero_mul] at e
   rcases Nat.mul_eq_zero.1 e.symm with h1 | h1
   · rcases Nat.mul_eq_zero.1 h1 with h2 | h2
     · exact h2
     · exact absurd h2 (two_ne _)
   · exact absurd h1 (frat a).den_nz
 · unfold frat; rw [h, Nat.zero_mul, sg_zero, Rat.zero_mkRat]; rfl
theorem frat_neg_num (a : Nat) (h : fnum a ≠ 0) : ((frat a).num < 0) = (fneg a = true) := by
 have hp : 0 < fnum a * 2 ^ (fpow a - 1075) := Nat.mul_pos (Nat.pos_of_ne_zero h) (Nat.pow_pos (by decide))
 rw [← sg_sign (b := fneg a) hp]; have hh := mkRat_iff (frat a).num (sg (fneg a) (fnum a * 2 ^ (fpow a - 1075))) (frat a).den_nz (two_ne (1075 - fpow a)); rw [Rat.mkRat_self] at hh; have h2 := hh.1 rfl; have hd : (0 : Int) < ((frat a).den : Int) := by have := (frat a).den_pos; omega
 have h2p : (0 : Int) < ((2 ^ (1075 - fpow a) : Nat) : Int) := by have := Nat.pow_pos (a := 2) (n := 1075 - fpow a) (by decide); omega
 generalize ((2 ^ (1075 - fpow a) : Nat) : Int) = D at *; generalize sg (fneg a) (fnum a * 2 ^ (fpow a - 1075)) = S at *; generalize ((frat a).den : Int) = E at *; refine propext ⟨fun hn => ?_, fun hn => ?_⟩
 · have := Int.mul_neg_of_neg_of_pos hn h2p; rcases Int.lt_or_le S 0 with hs | hs
   · exact hs
   · have := Int.mul_nonneg hs (Int.le_of_lt hd); omega
 · have := Int.mul_neg_of_neg_of_pos hn hd; rcases Int.lt_or_le (frat a).num 0 with hs | hs
   · exact hs
   · have := Int.mul_nonneg hs (Int.le_of_lt h2p); omega
theorem fmag_self {a : Nat} (ha : a < 18446744073709551616) (h : finB a = true) : fmag (frat a) = a % 9223372036854775808 := by
 unfold finB at h; rw [decide_eq_true_eq] at h; unfold fmag; by_cases h0 : (frat a).num = 0
 · rw [if_pos h0]; rw [frat_num_zero] at h0; unfold fnum fman fexp at h0
   split at h0 <;> omega
 · rw [if_neg h0]; have hf : fnum a ≠ 0 := fun e => h0 (by rw [frat_num_zero]; exact e)
   have hc := frat_cross a; rw [nfin_self (f := fnum a) (p := fpow a) (frat a).den_nz (fun e => h0 (Int.natAbs_eq_zero.1 e)) hc (fpow_lt a).1 (by unfold fpow fexp; split <;> omega) (fnum_lt a) hf (by unfold fpow fnum fman; split <;> omega)]
   unfold fnum fpow fman fexp
   split <;> omega
theorem nb_self {a : Nat} (ha : a < 18446744073709551616) (h : finB a = true) : nbits (frat a) = (if a % 9223372036854775808 = 0 then 0 else a) ∧ nfB (frat a) = true := by
 have e := fmag_self ha h
 constructor
 · unfold nbits; rw [e]; by_cases h0 : a % 9223372036854775808 = 0
   · rw [if_pos h0, if_pos h0]
   · rw [if_neg h0, if_neg h0, fbits_eq, e]
     have hf : fnum a ≠ 0 := by
      intro hh; have : (frat a).num = 0 := by rw [frat_num_zero]; exact hh
      unfold fmag at e; rw [if_pos this] at e; omega
     have hn := frat_neg_num a hf; unfold fneg at hn; rw [decide_eq_true_eq] at hn
     split
     · rename_i hh; rw [hn] at hh; omega
     · rename_i hh; rw [hn] at hh; omega
 · unfold nfB finB; rw [fbits_mod, e]; exact h
theorem sum_bound {l : List (Nat × Nat)} {lo hi : Nat × Nat} (h1 : frat lo.1 < frat hi.1) (h2 : frat lo.2 < frat hi.2) (hl : 1 ≤ l.length) (hB : Bord (hor (l.map cofr)) (cofr lo) (cofr hi)) : ∃ k : Int, sumT l lo hi 4 = 4 * k ∧ 0 ≤ k ∧ k < l.length := by
 have hp : PC ((l.length - 1) + 1) (hor (l.map cofr)) := by
  have := pc_hor (l.map cofr); rw [List.length_map] at this
  rwa [show l.length - 1 + 1 = l.length by omega]
 obtain ⟨N1, s1⟩ := sum_turn l lo hi hB; obtain ⟨N2, s2⟩ := Bord.cls hp hB; obtain ⟨N3, s3⟩ := Wn_bound (lo := cofr lo) (hi := cofr hi) hp h1 h2 hB; have a := s1 (N1 + N2 + N3) (by omega)
 obtain ⟨k, hk⟩ := Wn_four (s2 (N1 + N2 + N3) (by omega))
 have b := s3 (N1 + N2 + N3) (by omega)
 clear s1 s2 s3 hB hp; rw [a]; rw [hk] at b ⊢; clear a hk; exact ⟨k, rfl, by omega, by omega⟩
theorem mid_fin {x : Nat} (h : midB x = true) : finB x = true := by
 unfold midB at h; rw [Bool.or_eq_true, Bool.and_eq_true, decide_eq_true_eq, decide_eq_true_eq, decide_eq_true_eq] at h; unfold finB; rw [decide_eq_true_eq]; omega
theorem srung_frat {x : Nat} (hx : x < 18446744073709551616) (h : finB x = true) : srung (nbits (frat x)) = srung x := by
 rw [(nb_self hx h).1]; unfold srung
 split
 · split <;> split <;> omega
 · rfl
theorem ge_lt {x y : Nat} (hx : x < 18446744073709551616) (hy : y < 18446744073709551616) (mx : finB x = true) (my : finB y = true) : geB x y = false ↔ frat x < frat y := by
 have fx := mx; have fy := my; unfold finB at fx fy; rw [decide_eq_true_eq] at fx fy; have o := forder2 x y hx hy fx fy; unfold geB; have e : FloatKind.f64.format.order x y = some (ordI (srung x) (srung y)) := o; rw [e]
 have key : frat x < frat y ↔ srung x < srung y := by
  constructor
  · intro h; rcases Int.lt_trichotomy (srung x) (srung y) with k | k | k
    · exact k
    · exfalso
      have ex := (nb_self hx mx).1; have ey := (nb_self hy my).1
      have : nbits (frat x) = nbits (frat y) := by
       rw [ex, ey]; unfold srung at k
       split at k <;> split at k <;> split <;> split <;> omega
      have e2 : frat (nbits (frat x)) = frat (nbits (frat y)) := by rw [this]
      rw [ex, ey] at e2
      have z : ∀ b : Nat, frat (if b % 9223372036854775808 = 0 then 0 else b) = frat b := by
       intro b
       split
       · rename_i h0; have e1 : fexp b = 0 := by unfold fexp; omega
         have e2 : fnum b = 0 := by unfold fnum; rw [if_pos e1]; unfold fman; omega
         unfold frat; rw [e2, show fnum 0 = 0 by decide, Nat.zero_mul, Nat.zero_mul, sg_zero, sg_zero, Rat.zero_mkRat, Rat.zero_mkRat]
       · rfl
      rw [z, z] at e2; rw [e2] at h; exact Rat.lt_irrefl h
    · exfalso
      have := srung_mono (Rat.le_of_lt h); rw [srung_frat hx mx, srung_frat hy my] at this; omega
  · intro h; rcases Rat.le_total (a := frat y) (b := frat x) with k | k
    · exfalso
      have := srung_mono k; rw [srung_frat hx mx, srung_frat hy my] at this; omega
    · rcases Rat.le_iff_lt_or_eq.1 k with q | q
      · exact q
      · exfalso
        have a := srung_frat hx mx; rw [q, srung_frat hy my] at a; omega
 rw [key]; unfold ordI; by_cases k : srung x < srung y
 · rw [if_pos k]; exact ⟨fun _ => k, fun _ => rfl⟩
 · rw [if_neg k]
   constructor
   · intro h
     split at h <;> exact absurd h (by decide)
   · intro h; exact absurd h k
theorem ask_box {l : List (Nat × Nat)} {lo hi : Nat × Nat} (h : askE l lo hi = 0) (b1 : lo.1 < 18446744073709551616) (b2 : lo.2 < 18446744073709551616) (b3 : hi.1 < 18446744073709551616) (b4 : hi.2 < 18446744073709551616) :
 (1 ≤ l.length ∧ l.length ≤ 17) ∧ frat lo.1 < frat hi.1 ∧ frat lo.2 < frat hi.2 := by
 obtain ⟨h1, h2, h3, h4⟩ := askE_ok h; refine ⟨h1, ?_⟩
 unfold midC at h3 h4; rw [Bool.and_eq_true] at h3 h4; unfold askE at h
 split at h
 · exact absurd h (by decide)
 · split at h
   · exact absurd h (by decide)
   · split at h
     · exact absurd h (by decide)
     · unfold endE at h
       split at h
       · exact absurd h (by decide)
       · split at h
         · exact absurd h (by decide)
         · rename_i k; exact ⟨(ge_lt b1 b3 (mid_fin h3.1) (mid_fin h4.1)).1 (by cases hh : geB lo.1 hi.1 <;> first | rfl | exact absurd (Or.inl hh) k), (ge_lt b2 b4 (mid_fin h3.2) (mid_fin h4.2)).1 (by cases hh : geB lo.2 hi.2 <;> first | rfl | exact absurd (Or.inr hh) k)⟩
theorem zerosN_err {l : List (Nat × Nat)} {lo hi : Nat × Nat} (h : (zerosN l lo hi).2 ≠ 0) : (zerosN l lo hi).1 = 0 := by
 unfold zerosN at *
 split
 · rfl
 · rename_i k; rw [if_neg k] at h
   split
   · rfl
   · rename_i k2; rw [if_neg k2] at h; exact absurd rfl h
theorem zerosN_ok {l : List (Nat × Nat)} {lo hi : Nat × Nat} (h : (zerosN l lo hi).2 = 0) : askE l lo hi = 0 ∧ Bord (hor (l.map cofr)) (cofr lo) (cofr hi) ∧ (zerosN l lo hi).1 = (sumT l lo hi 4).tdiv 4 := by
 unfold zerosN at *
 split at h
 · rename_i k; exact absurd h k
 · rename_i k; rw [if_neg k]
   split at h
   · exact absurd h (by decide)
   · rename_i k2; rw [if_neg k2]; exact ⟨Classical.not_not.1 k, (touch_bord l lo hi).1 (by simpa using k2), rfl⟩
end Go.Proofs.YthjeejnggpjnjaaGreatDoor
