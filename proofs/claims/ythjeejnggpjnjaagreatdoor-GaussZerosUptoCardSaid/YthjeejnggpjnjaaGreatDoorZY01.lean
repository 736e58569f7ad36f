/- A part: K, L. -/
import Derived.Test.YthjeejnggpjnjaaGreatDoorZY00
set_option linter.unusedSimpArgs false
set_option linter.unusedVariables false
set_option maxRecDepth 100000
set_option maxHeartbeats 16000000
set_option synthInstance.maxHeartbeats 2000000
set_option synthInstance.maxSize 100000
namespace Go.Proofs.YthjeejnggpjnjaaGreatDoor
open Go.RowKit
theorem fig_step {o : List Nat} {i c b u v G SU SV : Nat} (hi : o.length = i) (h : val o + G * SV = SU + 4294967296 ^ i * (c + b)) (hu : u < 4294967296) (hb : b ≤ 1) (p t : Nat) (hp : p = G * v + c)
 (ht : t = (u + 18446744073709551616 - p % 4294967296 - b) % 18446744073709551616) :
 val (o ++ [t % 4294967296]) + G * (SV + 4294967296 ^ i * v) = (SU + 4294967296 ^ i * u) + 4294967296 ^ (i + 1) * (p / 4294967296 + t / 9223372036854775808) ∧ t / 9223372036854775808 ≤ 1 := by
 have e : val [t % 4294967296] = t % 4294967296 := by simp [val]
 obtain ⟨tl, htl⟩ : ∃ tl, tl = t % 4294967296 := ⟨_, rfl⟩; obtain ⟨tb, htb⟩ : ∃ tb, tb = t / 9223372036854775808 := ⟨_, rfl⟩; obtain ⟨pl, hpl⟩ : ∃ pl, pl = p % 4294967296 := ⟨_, rfl⟩; obtain ⟨ph, hph⟩ : ∃ ph, ph = p / 4294967296 := ⟨_, rfl⟩; obtain ⟨q, hq⟩ : ∃ q, q = 4294967296 ^ i := ⟨_, rfl⟩; have k : tl + pl + b = u + 4294967296 * tb ∧ tb ≤ 1 := by omega
 have k2 : pl + 4294967296 * ph = G * v + c := by omega
 rw [val_append, hi, pow_succ_mul, e, ← htl, ← htb, ← hph, ← hq]; rw [← hq] at h; refine ⟨?_, k.2⟩
 have k3 : c + b + tl + G * v = u + 4294967296 * (ph + tb) := by omega
 have k4 : q * (c + b) + q * tl + q * (G * v) = q * u + q * (4294967296 * (ph + tb)) := by rw [← Nat.mul_add, ← Nat.mul_add, ← Nat.mul_add, k3]
 rw [Nat.mul_add G, show G * (q * v) = q * (G * v) by rw [← Nat.mul_assoc, Nat.mul_comm G q, Nat.mul_assoc]]
 omega
theorem add_back {o : List Nat} {i c u v SU SV : Nat} (hi : o.length = i) (h : val o + 4294967296 ^ i * c = SU + SV) (t : Nat) (ht : t = u + v + c) :
 val (o ++ [t % 4294967296]) + 4294967296 ^ (i + 1) * (t / 4294967296) = (SU + 4294967296 ^ i * u) + (SV + 4294967296 ^ i * v) := by
 rw [carry_step (x := u + v) hi h t (by omega), Nat.mul_add]
 omega
theorem fig_fin {o : List Nat} {n c b un U UL V G : Nat} (hi : o.length = n) (h : val o + G * V = UL + 4294967296 ^ n * (c + b)) (hU : U = UL + 4294967296 ^ n * un) (h1 : c + b ≤ un) (hV : 0 < V) (g1 : U / V ≤ G) (g2 : G ≤ U / V + 1) :
 G = U / V ∧ val (o ++ [un - (c + b)]) = U % V := by
 have e : val [un - (c + b)] = un - (c + b) := by simp [val]
 have k : 4294967296 ^ n * (un - (c + b)) + 4294967296 ^ n * (c + b) = 4294967296 ^ n * un := by rw [← Nat.mul_add]; congr 1; omega
 have k2 : val (o ++ [un - (c + b)]) + G * V = U := by rw [val_append, hi, e]; omega
 have k3 := (figure_exact hV g1 g2).1 (by omega)
 refine ⟨k3, ?_⟩
 have := Nat.div_add_mod' U V; rw [← k3] at this; omega
theorem fig_neg {o : List Nat} {n c b un U UL V G : Nat} (hi : o.length = n) (hok : Wok o) (h : val o + G * V = UL + 4294967296 ^ n * (c + b)) (hU : U = UL + 4294967296 ^ n * un) (h1 : un < c + b) (hV : 0 < V) (hVn : V < 4294967296 ^ n) (g1 : U / V ≤ G) (g2 : G ≤ U / V + 1) :
 G = U / V + 1 ∧ c + b = un + 1 ∧ val o + V = U % V + 4294967296 ^ n := by
 have ho := val_lt hok; rw [hi] at ho; obtain ⟨d, hd⟩ : ∃ d, c + b = un + (d + 1) := ⟨c + b - un - 1, by omega⟩
 obtain ⟨q, hq⟩ : ∃ q, q = 4294967296 ^ n := ⟨_, rfl⟩; rw [← hq] at h hU hVn ho ⊢; rw [hd, Nat.mul_add, Nat.mul_add, Nat.mul_one] at h; have k0 : U < G * V := by omega
 obtain ⟨k1, k2, k3⟩ := (figure_exact hV g1 g2).2 k0
 have hd0 : d = 0 := by
  rcases Nat.eq_zero_or_pos d with h0 | h0
  · exact h0
  · exfalso
    have : q * 1 ≤ q * d := Nat.mul_le_mul_left _ h0; omega
 subst hd0; refine ⟨k1, by omega, ?_⟩
 rw [Nat.mul_zero] at h; omega
theorem fig_back {o : List Nat} {n c S M : Nat} (hi : o.length = n) (hok : Wok o) (h : val o + 4294967296 ^ n * c = S) (hS : S = M + 4294967296 ^ n) (hM : M < 4294967296 ^ n) : c = 1 ∧ val o = M ∧ val (o ++ [0]) = M := by
 have ho := val_lt hok; rw [hi] at ho; obtain ⟨q, hq⟩ : ∃ q, q = 4294967296 ^ n := ⟨_, rfl⟩; rw [← hq] at h hS hM ho; have e : val [0] = 0 := by simp [val]
 have hc : c = 1 := by
  rcases Nat.lt_trichotomy c 1 with h1 | h1 | h1
  · have : c = 0 := by omega
    rw [this, Nat.mul_zero] at h; omega
  · exact h1
  · have : q * 2 ≤ q * c := Nat.mul_le_mul_left _ h1; omega
 rw [hc, Nat.mul_one] at h; have hv : val o = M := by omega
 exact ⟨hc, hv, by rw [val_append, e, Nat.mul_zero, Nat.add_zero, hv]⟩
theorem sub64c (x p : Nat) (hx : x < 4294967296) (hp : p < 4294967296) : IntKind.u64.wrap ((x : Int) - (p : Int)) = (((x + 18446744073709551616 - p) % 18446744073709551616 : Nat) : Int) := by rw [IntKind.wrap_u64]; omega
theorem sub64d (x p b : Nat) (hx : x < 4294967296) (hp : p < 4294967296) (hb : b ≤ 1) : IntKind.u64.wrap ((((x + 18446744073709551616 - p) % 18446744073709551616 : Nat) : Int) - (b : Int)) = (((x + 18446744073709551616 - p - b) % 18446744073709551616 : Nat) : Int) := by rw [IntKind.wrap_u64]; omega
theorem mask32 (p : Nat) (hp : p < 18446744073709551616) : bits BinOp.and IntKind.u64 (p : Int) 4294967295 = ((p % 4294967296 : Nat) : Int) := by
 have h := u64_and_nat p 4294967295 hp (by decide)
 rw [show (4294967295 : Nat) = 2 ^ 32 - 1 by decide, Nat.and_two_pow_sub_one_eq_mod] at h
 exact h
theorem cell_keeps {w wr : World} {g i B : Nat} {S : List Nat} {v : Value} (h : w.cell? ⟨g, i, none⟩ = some v) (hg : g < w.heap.size) (k : Keeps w.heap.size S w wr) (hS : g ∉ S) : wr.cell? ⟨g, i, none⟩ = some v := (k.cell (q := ⟨g, i, none⟩) hg hS).trans h
theorem ro_at {A U C : List Nat} {i x : Nat} (h : U[i]? = some x) : (A ++ (U ++ C))[A.length + i]? = some x := by
 rw [List.getElem?_append_right (by omega), show A.length + i - A.length = i by omega]
 have hi : i < U.length := by
  rcases Nat.lt_or_ge i U.length with h1 | h1
  · exact h1
  · rw [List.getElem?_eq_none h1] at h; cases h
 rw [List.getElem?_append_left hi, h]
theorem fig_num2 {V : List Nat} {n1 n2 v1 v0 : Nat} (hok : Wok V) (hl : V.length = n2 + 2) (h1 : n1 = n2 + 1) (x1 : V[n1]? = some v1) (x0 : V[n2]? = some v0) : ∃ v', val V = (v1 * 4294967296 + v0) * 4294967296 ^ n2 + v' ∧ v' < 4294967296 ^ n2 := by
 subst h1; have a1 := val_take x1; have a0 := val_take x0; rw [show n2 + 1 + 1 = V.length by omega, List.take_length, a0, pow_succ_mul] at a1
 refine ⟨val (V.take n2), ?_, ?_⟩
 · rw [a1, Nat.add_mul, Nat.mul_comm (v1 * 4294967296), Nat.mul_comm v0, Nat.mul_comm v1]; omega
 · have := val_lt (hok.take n2); rw [List.length_take, Nat.min_eq_left (by omega)] at this
   exact this
theorem fig_num3 {U : List Nat} {n n1 n2 un u1 u0 : Nat} (hok : Wok U) (hl : U.length = n + 1) (h1 : n1 + 1 = n) (h2 : n2 + 2 = n) (xn : U[n]? = some un) (x1 : U[n1]? = some u1) (x0 : U[n2]? = some u0) : ∃ u', val U = ((un * 4294967296 + u1) * 4294967296 + u0) * 4294967296 ^ n2 + u' ∧ u' < 4294967296 ^ n2 := by
 obtain rfl : n1 = n2 + 1 := by omega
 obtain rfl : n = n2 + 1 + 1 := by omega
 have an := val_take xn; have a1 := val_take x1; have a0 := val_take x0; rw [show n2 + 1 + 1 + 1 = U.length by omega, List.take_length, a1, a0, pow_succ_mul, pow_succ_mul] at an
 refine ⟨val (U.take n2), ?_, ?_⟩
 · rw [pow_succ_mul] at an; rw [an]
   grind
 · have := val_lt (hok.take n2); rw [List.length_take, Nat.min_eq_left (by omega)] at this
   exact this
theorem fig_top {un c b : Nat} (hu : un < 4294967296) (h : c + b ≤ un) (t : Nat) (ht : t = (un + 18446744073709551616 - c - b) % 18446744073709551616) : t % 4294967296 = un - (c + b) ∧ t / 9223372036854775808 = 0 := by omega
theorem fig_top2 {un c b : Nat} (hu : un < 4294967296) (h : c + b = un + 1) (t : Nat) (ht : t = (un + 18446744073709551616 - c - b) % 18446744073709551616) : t % 4294967296 = 4294967295 ∧ t / 9223372036854775808 = 1 := by omega
theorem drop_at {U : List Nat} {i x : Nat} (h : U[i]? = some x) : U.drop i = x :: U.drop (i + 1) := by
 have hi : i < U.length := by
  rcases Nat.lt_or_ge i U.length with h1 | h1
  · exact h1
  · rw [List.getElem?_eq_none h1] at h; cases h
 rw [List.drop_eq_getElem_cons hi]; rw [List.getElem?_eq_getElem hi] at h; rw [Option.some.inj h]
set_option maxHeartbeats 32000000 in
theorem bfigure_any {nX : Nat} (hnX : nX = 217 ∨ nX = 234) (g off n n1 n2 cap : Nat) (A U C : List Nat) (vv : Value) (V un u1 u0 v1 v0 : Nat) (w : World) (hR : Ro w g (A ++ (U ++ C))) (hA : A.length = off) (hU : U.length = n + 1) (hok : Wok U) (hv : Wd w vv (words V)) (hvl : (words V).length = n) (h1 : n1 + 1 = n) (h2 : n2 + 2 = n) (hn : n ≤ 549755813888) (hoff : off ≤ 549755813888) (hne : ∀ k, vv.ownBlock = some k → k ≠ g) (hlt : val U < V * 4294967296) (xun : U[n]? = some un) (xu1 : U[n1]? = some u1) (xu0 : U[n2]? = some u0) (xv1 : (words V)[n1]? = some v1) (xv0 : (words V)[n2]? = some v0) (htop : 2147483648 ≤ v1) (hcap : n + 1 ≤ cap) :
 Calls Tryz.prog nX #[.slice (some ⟨g, off, none⟩) (n + 1) cap, vv] w fun e w' => ∃ U', e = .returned (.int .u32 ((val U / V : Nat) : Int)) ∧ U'.length = n + 1 ∧ Wok U' ∧ val U' = val U % V ∧ Ro w' g (A ++ (U' ++ C)) ∧ Keeps w.heap.size [g] w w' := by
 rcases hnX with rfl | rfl <;> (
 have okv := words_ok V; have vval := val_words V; have vlt := words_lt V; rw [hvl] at vlt; obtain ⟨a, cv, rfl, hcv, hce⟩ := hv.form; clear hv; generalize words V = l at okv vval hvl hcv hce hne xv1 xv0 ⊢; obtain ⟨gv, ov, rfl, hgv, hxv⟩ := hce (by omega)
 have hgne : gv ≠ g := hne gv rfl; clear hce hne; rw [hvl] at hcv ⊢; obtain ⟨Q, hQ⟩ : ∃ Q, Q = val U / V := ⟨_, rfl⟩; obtain ⟨M, hM⟩ : ∃ M, M = val U % V := ⟨_, rfl⟩; rw [← hQ, ← hM]; have hunB := hok.get xun; have hu1B := hok.get xu1; have hu0B := hok.get xu0; have hv1B := okv.get xv1; have hv0B := okv.get xv0; obtain ⟨v', f1, f2⟩ := fig_num2 okv (by omega) (by omega) xv1 xv0
 obtain ⟨u', f3, f4⟩ := fig_num3 hok hU h1 h2 xun xu1 xu0; rw [vval] at f1; obtain ⟨N, hN⟩ : ∃ N, N = un * 4294967296 + u1 := ⟨_, rfl⟩; rw [← hN] at f3; have F : Hid (Fg (val U) V (4294967296 ^ n2) N v1 v0 u0) := hid ⟨⟨v', f1, f2⟩, ⟨u', f3, f4⟩, hlt, htop, hv1B, hv0B, hu0B⟩; have VP := hid F.out.pos.1; have hst := F.out.start
 have hun2 : val U = val (U.take n) + 4294967296 ^ n * un := by
  have := val_take xun; rw [← hU, List.take_length] at this; rw [this]
 have hMlt : M < 4294967296 ^ n := by rw [hM]; exact Nat.lt_trans (Nat.mod_lt _ VP.out) vlt
 have cn := hR.cell (ro_at xun); have c1 := hR.cell (ro_at xu1); have c0 := hR.cell (ro_at xu0); rw [hA] at cn c1 c0; have d1 := hxv n1 v1 xv1; have d0 := hxv n2 v0 xv0; have HR := hid hR; have HA := hid hA; have HU := hid hU; have HL := hid hvl; have OKU := hid hok; have OKV := hid okv; have VV := hid vval; have VB := hid vlt; have UN := hid hun2; have MB := hid hMlt; have HQ := hid hQ; have HM := hid hM; have NE := hid hgne; have HXV := hid hxv; have XUN := hid xun; haveI : Has w g := ⟨hR.lt⟩; haveI : Has w gv := ⟨hgv⟩; clear hR hA hU hvl hok okv vval vlt hun2 hMlt hQ hM hgne hxv f1 f2 f3 f4 xun xu1 xu0 xv1 xv0 hlt; have i1 : (n : Int) - 1 = (n1 : Int) := by omega
 have i2 : (n : Int) - 2 = (n2 : Int) := by omega
 have j1 : (0 : Int) ≤ (n1 : Int) := by omega
 have j2 : (0 : Int) ≤ (n2 : Int) := by omega
 have j3 : (0 : Int) ≤ (n : Int) := by omega
 have j4 : (n1 : Int) < (n : Int) := by omega
 have j5 : (n2 : Int) < (n : Int) := by omega
 have j6 : (n1 : Int) < (n : Int) + 1 := by omega
 have j7 : (n2 : Int) < (n : Int) + 1 := by omega
 have H1 := hid h1; have H2 := hid h2; clear h1 h2; have k1 : IntKind.u64.wrap (v1 : Int) = (v1 : Int) := by rw [IntKind.wrap_u64]; omega
 have k2 : IntKind.u64.wrap (un : Int) = (un : Int) := by rw [IntKind.wrap_u64]; omega
 have k3 : IntKind.u64.wrap (u1 : Int) = (u1 : Int) := by rw [IntKind.wrap_u64]; omega
 have k4 : IntKind.u64.wrap (u0 : Int) = (u0 : Int) := by rw [IntKind.wrap_u64]; omega
 have k5 : IntKind.u64.wrap (v0 : Int) = (v0 : Int) := by rw [IntKind.wrap_u64]; omega
 have k6 : IntKind.u64.wrap ((un : Int) * 4294967296) = (un : Int) * 4294967296 := by rw [IntKind.wrap_u64]; omega
 have k7 := or_words un u1 hunB hu1B; rw [← hN] at k7; have hNB : N < 18446744073709551616 := by omega
 clear hN; have ed0 : ¬ (v1 : Int) = 0 := by omega
 have ed1 : ((v1 : Int) == 0) = false := beq_eq_false_iff_ne.2 ed0; obtain ⟨G0, hG0⟩ : ∃ G0, G0 = N / v1 := ⟨_, rfl⟩; obtain ⟨r0, hr0⟩ : ∃ r0, r0 = N % v1 := ⟨_, rfl⟩; have q1 : (N : Int).tdiv (v1 : Int) = (G0 : Int) := by rw [Int.tdiv_eq_ediv_of_nonneg (by omega), hG0]; simp
 have q2 : (N : Int) / (v1 : Int) = (G0 : Int) := by rw [hG0]; simp
 have q3 : (N : Int).tmod (v1 : Int) = (r0 : Int) := by rw [Int.tmod_eq_emod_of_nonneg (by omega), hr0]; simp
 have q4 : (N : Int) % (v1 : Int) = (r0 : Int) := by rw [hr0]; simp
 rw [← hG0] at hst; have hE0 : Hid (G0 * v1 + r0 = N) := hid (by rw [hG0, hr0]; exact Nat.div_add_mod' N v1)
 have hr0B : r0 < 4294967296 := by rw [hr0]; exact Nat.lt_trans (Nat.mod_lt _ (by omega)) hv1B
 have hQ0 := hid hst.1; have hG0B := hst.2; have q5 : IntKind.u64.wrap (G0 : Int) = (G0 : Int) := by rw [IntKind.wrap_u64]; omega
 have q6 : IntKind.u64.wrap (r0 : Int) = (r0 : Int) := by rw [IntKind.wrap_u64]; omega
 clear hst hG0 hr0
 (first | go_enter Tryz.func217, Tryz.ntmps217 | go_enter Tryz.func234, Tryz.ntmps234)
 go_wp2_with fail
 go_quiet (fail)
 go_wp2_with fail
 go_loopw [8, 9] (fun s8 s9 wr => ∃ G r : Nat, s8 = .int .u64 G ∧ s9 = .int .u64 r ∧ G ≤ 4294967297 ∧ r < 4294967296 ∧ Hid (G * v1 + r = N) ∧ Hid (val U / V ≤ G) ∧ Hid (Drawn w wr)) (fun s8 s9 _ => (intOf s8).toNat)
 case atStart => exact ⟨G0, r0, rfl, rfl, hG0B, hr0B, hE0, hQ0, hid (by first | exact ⟨_, rfl⟩ | (repeat' (first | exact Drawn.refl _ | (refine Drawn.more ?_ _))))⟩
 case round =>
  obtain ⟨G, r, rfl, rfl, hG, hr, hE, hQ, hdr⟩ := hrel; obtain ⟨qd, rfl⟩ := hdr.out; clear q1 q2 q3 q4 q5 q6 hE0 hQ0 k7 k6 cn c1 d1 ed0 ed1; rcases Nat.lt_or_ge G 4294967296 with hGB | hGB
  case' inr =>
   obtain ⟨d1, d2, d3⟩ := F.out.down hE.out hQ.out (.inl hGB); have eg0 : decide ((G : Int) ≥ 4294967296) = true := decide_eq_true (by omega)
   have eg1 : decide ((4294967296 : Int) ≤ (G : Int)) = true := decide_eq_true (by omega)
   obtain ⟨GG, hGGe⟩ : ∃ GG, GG = G - 1 := ⟨_, rfl⟩; rw [← hGGe] at d2 d3; have HG : Hid (G = GG + 1) := hid (by omega)
   have d1' := hid d1; obtain ⟨r', hr'⟩ : ∃ r', r' = r + v1 := ⟨_, rfl⟩; have er : IntKind.u64.wrap ((r : Int) + (v1 : Int)) = (r' : Int) := by rw [IntKind.wrap_u64]; omega
   have er2 : (r : Int) + (v1 : Int) = (r' : Int) := by omega
   have eg : IntKind.u64.wrap ((G : Int) - 1) = (GG : Int) := by rw [IntKind.wrap_u64]; omega
   have eg2 : (G : Int) - 1 = (GG : Int) := by omega
   have E2 := hid d2; have Q2 := hid d3; rcases Nat.lt_or_ge r' 4294967296 with hrB | hrB
   case inl =>
    have E3 : Hid (GG * v1 + r' = N) := hid (by rw [hr']; exact E2.out)
    have ec : decide ((4294967296 : Int) ≤ (r' : Int)) = false := decide_eq_false (by omega)
    have hG2 : GG ≤ 4294967297 := by omega
    have ec2 : decide ((r' : Int) ≥ 4294967296) = false := decide_eq_false (by omega)
    clear d1 d2 d3 hr' hGGe E2 hE hQ; go_wp2_with fail
    go_quiet (fail)
    go_wp2_with fail
    go_roundw
    case rel => exact ⟨GG, r', by rfl, by rfl, hG2, hrB, E3, Q2, hid (by first | exact ⟨_, rfl⟩ | (repeat' (first | exact hdr.out | (refine Drawn.more ?_ _))))⟩
    case measure => simp [intOf]; have := HG.out; omega
   case' inr =>
    have hGG : GG < 4294967296 := by have := F.out.stop hE.out hr (by omega) (by omega); omega
    have G1 : Hid (val U / V ≤ GG) := Q2; have G2 : Hid (GG ≤ val U / V + 1) := hid (F.out.fin E2.out hGG (.inr (by omega)))
    have ec : decide ((4294967296 : Int) ≤ (r' : Int)) = true := decide_eq_true (by omega)
    have ec2 : decide ((r' : Int) ≥ 4294967296) = true := decide_eq_true (by omega)
    clear d1 d2 d3 hr' hGGe E2 hE hQ; go_wp2_with fail
    go_quiet (fail)
    go_wp2_with fail
  case' inl =>
   obtain ⟨gp, hgp⟩ : ∃ gp, gp = G * v0 := ⟨_, rfl⟩; have gpI : (G : Int) * (v0 : Int) = (gp : Int) := by rw [hgp]; simp
   have gpB := mul_words_lt hGB hv0B; rw [← hgp] at gpB; have gpW : IntKind.u64.wrap ((G : Int) * (v0 : Int)) = (gp : Int) := by rw [gpI, IntKind.wrap_u64]; omega
   have eo := or_words r u0 hr hu0B; have esh : IntKind.u64.wrap ((r : Int) * 4294967296) = (r : Int) * 4294967296 := by rw [IntKind.wrap_u64]; omega
   obtain ⟨ru, hru⟩ : ∃ ru, ru = r * 4294967296 + u0 := ⟨_, rfl⟩; rw [← hru] at eo; have eg0 : decide ((G : Int) ≥ 4294967296) = false := decide_eq_false (by omega)
   have eg1 : decide ((4294967296 : Int) ≤ (G : Int)) = false := decide_eq_false (by omega)
   rcases Nat.lt_or_ge ru gp with hc | hc
   case' inr =>
    have hGG : G < 4294967296 := hGB; have G1 : Hid (val U / V ≤ G) := hQ; have G2 : Hid (G ≤ val U / V + 1) := hid (F.out.fin hE.out hGG (.inl (by omega)))
    obtain ⟨GG, hGGe⟩ : ∃ GG, GG = G := ⟨_, rfl⟩; subst hGGe; have ec0 : decide ((gp : Int) > (ru : Int)) = false := decide_eq_false (by omega)
    have ec1 : decide ((ru : Int) < (gp : Int)) = false := decide_eq_false (by omega)
    clear hgp hru hE hQ; go_wp2_with fail
    go_quiet (fail)
    go_wp2_with fail
   case' inl =>
    obtain ⟨d1, d2, d3⟩ := F.out.down hE.out hQ.out (.inr (by omega))
    have ec0 : decide ((gp : Int) > (ru : Int)) = true := decide_eq_true (by omega)
    have ec1 : decide ((ru : Int) < (gp : Int)) = true := decide_eq_true (by omega)
    clear hgp hru; obtain ⟨GG, hGGe⟩ : ∃ GG, GG = G - 1 := ⟨_, rfl⟩; rw [← hGGe] at d2 d3; have HG : Hid (G = GG + 1) := hid (by omega)
    have d1' := hid d1; obtain ⟨r', hr'⟩ : ∃ r', r' = r + v1 := ⟨_, rfl⟩; have er : IntKind.u64.wrap ((r : Int) + (v1 : Int)) = (r' : Int) := by rw [IntKind.wrap_u64]; omega
    have er2 : (r : Int) + (v1 : Int) = (r' : Int) := by omega
    have eg : IntKind.u64.wrap ((G : Int) - 1) = (GG : Int) := by rw [IntKind.wrap_u64]; omega
    have eg2 : (G : Int) - 1 = (GG : Int) := by omega
    have E2 := hid d2; have Q2 := hid d3; rcases Nat.lt_or_ge r' 4294967296 with hrB | hrB
    case inl =>
     have E3 : Hid (GG * v1 + r' = N) := hid (by rw [hr']; exact E2.out)
     have ec : decide ((4294967296 : Int) ≤ (r' : Int)) = false := decide_eq_false (by omega)
     have hG2 : GG ≤ 4294967297 := by omega
     have ec2 : decide ((r' : Int) ≥ 4294967296) = false := decide_eq_false (by omega)
     clear d1 d2 d3 hr' hGGe E2 hE hQ; go_wp2_with fail
     go_quiet (fail)
     go_wp2_with fail
     go_roundw
     case rel => exact ⟨GG, r', by rfl, by rfl, hG2, hrB, E3, Q2, hid (by first | exact ⟨_, rfl⟩ | (repeat' (first | exact hdr.out | (refine Drawn.more ?_ _))))⟩
     case measure => simp [intOf]; have := HG.out; omega
    case' inr =>
     have hGG : GG < 4294967296 := by have := F.out.stop hE.out hr (by omega) (by omega); omega
     have G1 : Hid (val U / V ≤ GG) := Q2; have G2 : Hid (GG ≤ val U / V + 1) := hid (F.out.fin E2.out hGG (.inr (by omega)))
     have ec : decide ((4294967296 : Int) ≤ (r' : Int)) = true := decide_eq_true (by omega)
     have ec2 : decide ((r' : Int) ≥ 4294967296) = true := decide_eq_true (by omega)
     clear d1 d2 d3 hr' hGGe E2 hE hQ; go_wp2_with fail
     go_quiet (fail)
     go_wp2_with fail
  all_goals
   go_loopw [10, 11, 12, 13, 14] (fun s10 s11 s12 s13 s14 wr => ∃ (i c b : Nat) (o : List Nat), s10 = .int .u64 c ∧ s11 = .int .u64 b ∧ s12 = .int .i64 i ∧ i ≤ n ∧ c < 4294967296 ∧ b ≤ 1 ∧ o.length = i ∧ Hid (Wok o) ∧ Hid (Ro wr g (A ++ (o ++ (U.drop i ++ C)))) ∧ Hid (val o + GG * val (l.take i) = val (U.take i) + 4294967296 ^ i * (c + b)) ∧ Hid (Keeps w.heap.size [g] w wr)) (fun s10 s11 s12 s13 s14 _ => n - (intOf s12).toNat)
   case atStart => exact ⟨0, 0, 0, [], rfl, rfl, rfl, Nat.zero_le _, by omega, by omega, rfl, hid Wok.nil, HR, hid (by simp [val]), hid (by repeat' (first | exact Keeps.refl _ _ _ | (refine Keeps.drewN ?_ _) | (refine Keeps.drew ?_)))⟩
   case round =>
    obtain ⟨i, c, b, o, rfl, rfl, rfl, hi, hc, hb, hol, hoo, hRR, hS, hK⟩ := hrel; haveI : Has wr g := ⟨hRR.out.lt⟩; by_cases hin : i < n
    · obtain ⟨x, hx⟩ : ∃ x, U[i]? = some x := ⟨_, List.getElem?_eq_getElem (by have := HU.out; omega)⟩
      obtain ⟨y, hy⟩ : ∃ y, l[i]? = some y := ⟨_, List.getElem?_eq_getElem (by have := HL.out; omega)⟩
      have hxB := OKU.out.get hx; have hyB := OKV.out.get hy; have hR2 := hRR.out; rw [drop_at hx, List.cons_append] at hR2; have cx := hR2.cell (get_mid A o (U.drop (i + 1) ++ C) x); have fx := hR2.free (A.length + o.length); have cy := cell_keeps (B := 0) (HXV.out i y hy) hgv hK.out (by simpa using NE.out)
      haveI : Has wr gv := ⟨Nat.lt_of_lt_of_le hgv hK.out.size⟩; obtain ⟨gy, hgy⟩ : ∃ gy, gy = GG * y := ⟨_, rfl⟩; have gyI : (GG : Int) * (y : Int) = (gy : Int) := by rw [hgy]; simp
      have gyB := mul_words_lt hGG hyB; rw [← hgy] at gyB; obtain ⟨p, hp⟩ : ∃ p, p = gy + c := ⟨_, rfl⟩; obtain ⟨t, ht⟩ : ∃ t, t = (x + 18446744073709551616 - p % 4294967296 - b) % 18446744073709551616 := ⟨_, rfl⟩; obtain ⟨s1, s2⟩ := fig_step hol hS.out hxB hb p t (by rw [hp, hgy]) ht
      rw [← val_take hy, ← val_take hx] at s1; have hR3 := hR2.set (A.length + o.length) (t % 4294967296); rw [set_mid] at hR3; rw [HA.out, hol] at cx fx hR3; have hi0 : (0 : Int) ≤ (i : Int) := by omega
      have hin1 : (i : Int) < (n : Int) := by omega
      have hin2 : (i : Int) < (n : Int) + 1 := by omega
      have hpB : p < 18446744073709551616 := by omega
      have e1 : IntKind.u64.wrap (x : Int) = (x : Int) := by rw [IntKind.wrap_u64]; omega
      have e2 : IntKind.u64.wrap (y : Int) = (y : Int) := by rw [IntKind.wrap_u64]; omega
      have e3 : IntKind.u64.wrap ((GG : Int) * (y : Int)) = (gy : Int) := by rw [gyI, IntKind.wrap_u64]; omega
      have e4 : IntKind.u64.wrap ((gy : Int) + (c : Int)) = (p : Int) := by rw [IntKind.wrap_u64]; omega
      have e4b : (gy : Int) + (c : Int) = (p : Int) := by omega
      have e5 : (p : Int) / 4294967296 = ((p / 4294967296 : Nat) : Int) := by omega
      have e6 := mask32 p hpB; have hpl : p % 4294967296 < 4294967296 := Nat.mod_lt _ (by decide)
      have e7 := sub64c x (p % 4294967296) hxB hpl; have e8 := sub64d x (p % 4294967296) b hxB hpl hb; rw [← ht] at e8; have hph : p / 4294967296 < 4294967296 := by omega
      obtain ⟨tq, htq⟩ : ∃ tq, tq = (x + 18446744073709551616 - p % 4294967296) % 18446744073709551616 := ⟨_, rfl⟩; rw [← htq] at e7 e8; have e9 : IntKind.u32.wrap (t : Int) = ((t % 4294967296 : Nat) : Int) := by rw [IntKind.wrap_u32]; omega
      have e10 : (t : Int) / 9223372036854775808 = ((t / 9223372036854775808 : Nat) : Int) := by omega
      have RN : Hid (Ro (wr.setCell ⟨g, off + i, none⟩ (.int .u32 ((t % 4294967296 : Nat) : Int))) g (A ++ ((o ++ [t % 4294967296]) ++ (U.drop (i + 1) ++ C)))) := hid hR3; have ON : Hid (Wok (o ++ [t % 4294967296])) := hid (hoo.out.append (Wok.cons (Nat.mod_lt _ (by decide)) Wok.nil))
      have KN : Hid (Keeps w.heap.size [g] w (wr.setCell ⟨g, off + i, none⟩ (.int .u32 ((t % 4294967296 : Nat) : Int)))) := hid (hK.out.set (Or.inl (by simp)) _ _)
      have SN := hid s1; have hon : (o ++ [t % 4294967296]).length = i + 1 := by simp [hol]
      clear hx hy hR2 hR3 s1 ht htq hp hgy gyI hRR hS; generalize t % 4294967296 = tl at e9 RN ON KN SN hon ⊢; generalize t / 9223372036854775808 = tb at e10 s2 SN ⊢; generalize p % 4294967296 = pl at e6 e7 hpl ⊢; generalize p / 4294967296 = ph at e5 hph SN ⊢; go_wp2_with fail
      go_roundw
      case rel => exact ⟨i + 1, ph, tb, o ++ [tl], by rfl, by rfl, by rfl, by omega, hph, s2, hon, ON, RN, SN, KN⟩
      case measure => simp [intOf]; omega
    · have hieq : n = i := by omega
      subst hieq; have hR2 := hRR.out; rw [drop_at XUN.out, List.drop_eq_nil_of_le (show U.length ≤ n + 1 by have := HU.out; omega), List.cons_append, List.nil_append] at hR2
      have hS2 := hS.out; rw [List.take_of_length_le (show l.length ≤ n by have := HL.out; omega), VV.out] at hS2
      have cx := hR2.cell (get_mid A o C un); have fx := hR2.free (A.length + o.length); obtain ⟨t, ht⟩ : ∃ t, t = (un + 18446744073709551616 - c - b) % 18446744073709551616 := ⟨_, rfl⟩
      have hR3 : ∀ z : Nat, Ro (wr.setCell ⟨g, A.length + o.length, none⟩ (.int .u32 z)) g (A ++ ((o ++ [z]) ++ C)) := fun z => by
       have := hR2.set (A.length + o.length) z; rw [set_mid] at this; exact this
      rw [HA.out, hol] at cx fx; have e1 : IntKind.u64.wrap (un : Int) = (un : Int) := by rw [IntKind.wrap_u64]; omega
      have e7 := sub64c un c hunB hc; have e8 := sub64d un c b hunB hc hb; rw [← ht] at e8; obtain ⟨tq, htq⟩ : ∃ tq, tq = (un + 18446744073709551616 - c) % 18446744073709551616 := ⟨_, rfl⟩; rw [← htq] at e7 e8; have eg2 : IntKind.u32.wrap (GG : Int) = (GG : Int) := by rw [IntKind.wrap_u32]; omega
      rcases Nat.lt_or_ge un (c + b) with hcb | hcb
      · obtain ⟨f1, f2, f3⟩ := fig_neg hol hoo.out hS2 UN.out hcb VP.out VB.out G1.out G2.out; obtain ⟨t1, t2⟩ := fig_top2 hunB f2 t ht; have e9 : IntKind.u32.wrap (t : Int) = 4294967295 := by rw [IntKind.wrap_u32]; omega
        have e10 : (t : Int) / 9223372036854775808 = 1 := by omega
        have hR4 := hR3 4294967295; rw [HA.out, hol] at hR4; have GQ : Hid (GG = Q + 1) := hid (by rw [HQ.out]; exact f1)
        have BK : Hid (val o + V = M + 4294967296 ^ n) := hid (by rw [HM.out]; exact f3)
        have OL := hid hol; have R3 : Hid (Ro (wr.setCell ⟨g, off + n, none⟩ (.int .u32 4294967295)) g (A ++ ([] ++ (o.drop 0 ++ (4294967295 :: C))))) := hid (by have := hR4; rw [List.append_assoc] at this; exact this)
        have K3 : Hid (Keeps w.heap.size [g] w (wr.setCell ⟨g, off + n, none⟩ (.int .u32 4294967295))) := hid (hK.out.set (Or.inl (by simp)) _ _)
        clear f1 f2 f3 t1 t2 hR2 hR3 hR4 hS2 hS ht htq hcb hol; go_wp2_with fail
        go_loopw [16, 17, 18] (fun s16 s17 s18 wr => ∃ (i c : Nat) (o2 : List Nat), s16 = .int .u64 c ∧ s17 = .int .i64 i ∧ i ≤ n ∧ c ≤ 1 ∧ o2.length = i ∧ Hid (Wok o2) ∧ Hid (Ro wr g (A ++ (o2 ++ (o.drop i ++ (4294967295 :: C))))) ∧ Hid (val o2 + 4294967296 ^ i * c = val (o.take i) + val (l.take i)) ∧ Hid (Keeps w.heap.size [g] w wr)) (fun s16 s17 s18 _ => n - (intOf s17).toNat)
        case atStart => exact ⟨0, 0, [], rfl, rfl, Nat.zero_le _, by omega, rfl, hid Wok.nil, R3, hid rfl, K3⟩
        case round =>
         obtain ⟨i, c, o2, rfl, rfl, hi, hc, hol2, hoo2, hRR, hS, hK⟩ := hrel; haveI : Has wr g := ⟨hRR.out.lt⟩; by_cases hin : i < n
         · obtain ⟨x, hx⟩ : ∃ x, o[i]? = some x := ⟨_, List.getElem?_eq_getElem (by have := OL.out; omega)⟩
           obtain ⟨y, hy⟩ : ∃ y, l[i]? = some y := ⟨_, List.getElem?_eq_getElem (by have := HL.out; omega)⟩
           have hxB := hoo.out.get hx; have hyB := OKV.out.get hy; have hR2 := hRR.out; rw [drop_at hx, List.cons_append] at hR2; have cx := hR2.cell (get_mid A o2 (o.drop (i + 1) ++ (4294967295 :: C)) x); have fx := hR2.free (A.length + o2.length); have cy := cell_keeps (B := 0) (HXV.out i y hy) hgv hK.out (by simpa using NE.out)
           haveI : Has wr gv := ⟨Nat.lt_of_lt_of_le hgv hK.out.size⟩; obtain ⟨t, ht⟩ : ∃ t, t = x + y + c := ⟨_, rfl⟩; have s1 := add_back hol2 hS.out t ht; rw [← val_take hx, ← val_take hy] at s1; have hR3 := hR2.set (A.length + o2.length) (t % 4294967296); rw [set_mid] at hR3; rw [HA.out, hol2] at cx fx hR3; have hi0 : (0 : Int) ≤ (i : Int) := by omega
           have hin1 : (i : Int) < (n : Int) := by omega
           have hin2 : (i : Int) < (n : Int) + 1 := by omega
           have htB : t / 4294967296 ≤ 1 := by omega
           have e1 : IntKind.u64.wrap (x : Int) = (x : Int) := by rw [IntKind.wrap_u64]; omega
           have e2 : IntKind.u64.wrap (y : Int) = (y : Int) := by rw [IntKind.wrap_u64]; omega
           obtain ⟨xy, hxy⟩ : ∃ xy, xy = x + y := ⟨_, rfl⟩; have e3 : IntKind.u64.wrap ((x : Int) + (y : Int)) = (xy : Int) := by rw [IntKind.wrap_u64]; omega
           have e3b : (x : Int) + (y : Int) = (xy : Int) := by omega
           have e4 : IntKind.u64.wrap ((xy : Int) + (c : Int)) = (t : Int) := by rw [IntKind.wrap_u64]; omega
           have e4b : (xy : Int) + (c : Int) = (t : Int) := by omega
           have e5 : IntKind.u32.wrap (t : Int) = ((t % 4294967296 : Nat) : Int) := by rw [IntKind.wrap_u32]; omega
           have e6 : (t : Int) / 4294967296 = ((t / 4294967296 : Nat) : Int) := by omega
           have RN : Hid (Ro (wr.setCell ⟨g, off + i, none⟩ (.int .u32 ((t % 4294967296 : Nat) : Int))) g (A ++ ((o2 ++ [t % 4294967296]) ++ (o.drop (i + 1) ++ (4294967295 :: C))))) := hid hR3; have ON : Hid (Wok (o2 ++ [t % 4294967296])) := hid (hoo2.out.append (Wok.cons (Nat.mod_lt _ (by decide)) Wok.nil))
           have KN : ∀ k, Hid (Keeps w.heap.size [g] w ((wr.drewN k).setCell ⟨g, off + i, none⟩ (.int .u32 ((t % 4294967296 : Nat) : Int)))) := fun k => hid ((hK.out.drewN k).set (Or.inl (by simp)) _ _)
           have SN := hid s1; have hon : (o2 ++ [t % 4294967296]).length = i + 1 := by simp [hol2]
           clear hx hy hR2 hR3 s1 ht hxy; generalize t % 4294967296 = tl at e5 RN ON KN SN hon ⊢; generalize t / 4294967296 = th at e6 htB SN ⊢; go_wp2_with fail
           go_quiet (fail)
           go_wp2_with fail
           go_roundw
           case rel => exact ⟨i + 1, th, o2 ++ [tl], by rfl, by rfl, by omega, htB, hon, ON, RN, SN, KN _⟩
           case measure => simp [intOf]; omega
         · have hieq : n = i := by omega
           subst hieq; have hR2 := hRR.out; rw [List.drop_eq_nil_of_le (show o.length ≤ n by have := OL.out; omega), List.nil_append] at hR2
           have hS2 := hS.out; rw [List.take_of_length_le (show o.length ≤ n by have := OL.out; omega), List.take_of_length_le (show l.length ≤ n by have := HL.out; omega), VV.out] at hS2
           have b := fig_back (M := M) hol2 hoo2.out hS2 BK.out MB.out; obtain ⟨b1, b2, b3⟩ := b; have cx := hR2.cell (get_mid A o2 C 4294967295); have fx := hR2.free (A.length + o2.length); have hR3 := hR2.set (A.length + o2.length) 0; rw [set_mid] at hR3; rw [HA.out, hol2] at cx fx hR3; subst b1; have RN := hid hR3; have ON : Hid (Wok (o2 ++ [0])) := hid (hoo2.out.append (Wok.cons (by decide) Wok.nil))
           have KN : Hid (Keeps w.heap.size [g] w (wr.setCell ⟨g, off + n, none⟩ (.int .u32 ((0 : Nat) : Int)))) := hid (hK.out.set (Or.inl (by simp)) _ _)
           have VN := hid b3; have hon : Hid ((o2 ++ [0]).length = n + 1) := hid (by simp [hol2])
           have eg : IntKind.u64.wrap ((GG : Int) - 1) = (Q : Int) := by rw [IntKind.wrap_u64]; have := GQ.out; omega
           have eg2 : IntKind.u32.wrap (Q : Int) = (Q : Int) := by rw [IntKind.wrap_u32]; have := GQ.out; omega
           clear hR2 hR3 hS2 b2 b3 hS hol2; go_wp2_with fail
           go_ret
           exact ⟨o2 ++ [0], rfl, hon.out, ON.out, VN.out, RN.out, KN.out⟩
      · obtain ⟨f1, f2⟩ := fig_fin hol hS2 UN.out hcb VP.out G1.out G2.out; obtain ⟨t1, t2⟩ := fig_top hunB hcb t ht; have f3 : Hid (val (o ++ [t % 4294967296]) = M) := hid (by rw [t1, HM.out]; exact f2)
        have e9 : IntKind.u32.wrap (t : Int) = ((t % 4294967296 : Nat) : Int) := by rw [IntKind.wrap_u32]; omega
        have e10 : (t : Int) / 9223372036854775808 = 0 := by omega
        have hR4 := hR3 (t % 4294967296); rw [HA.out, hol] at hR4; have RN := hid hR4; have GQ : Hid (GG = Q) := hid (by rw [HQ.out]; exact f1)
        have ON : Hid (Wok (o ++ [t % 4294967296])) := hid (hoo.out.append (Wok.cons (Nat.mod_lt _ (by decide)) Wok.nil))
        have KN : Hid (Keeps w.heap.size [g] w (wr.setCell ⟨g, off + n, none⟩ (.int .u32 ((t % 4294967296 : Nat) : Int)))) := hid (hK.out.set (Or.inl (by simp)) _ _)
        have hon : Hid ((o ++ [t % 4294967296]).length = n + 1) := hid (by simp [hol])
        clear f1 f2 t1 t2 hR2 hR3 hR4 hS2 hS ht htq hcb hol; generalize t % 4294967296 = tl at e9 RN ON KN f3 hon ⊢; go_wp2_with fail
        go_ret
        exact ⟨o ++ [tl], by rw [← GQ.out]; rfl, hon.out, ON.out, f3.out, RN.out, KN.out⟩)
theorem bfigure : type_of% (@bfigure_any 217 (.inl rfl)) := @bfigure_any 217 (.inl rfl)
theorem efigure : type_of% (@bfigure_any 234 (.inr rfl)) := @bfigure_any 234 (.inr rfl)
theorem bl_mul_pow {n : Nat} (h : n ≠ 0) (s : Nat) : bl (n * 2 ^ s) = bl n + s := by
 have hp : 0 < 2 ^ s := Nat.pow_pos (by decide)
 have := bl_shift (n * 2 ^ s) s (Nat.le_mul_of_pos_left _ (Nat.pos_of_ne_zero h)); rw [Nat.mul_div_cancel _ hp] at this; omega
theorem top_shift {n x s : Nat} (h : n ≠ 0) (hx : (words n)[(words n).length - 1]? = some x) (hs : s = 32 - bl x) :
 (words (n * 2 ^ s)).length = (words n).length ∧ ∃ y, (words (n * 2 ^ s))[(words n).length - 1]? = some y ∧ 2147483648 ≤ y := by
 have hxB := (words_ok n).get hx; have h32 := bl_le32 hxB; have hp : 0 < 2 ^ s := Nat.pow_pos (by decide)
 have hn2 : n * 2 ^ s ≠ 0 := Nat.mul_ne_zero h (by omega)
 have e := bl_words h hx; have e2 := bl_mul_pow h s; have hl : (words n).length ≠ 0 := fun e0 => h (words_len0.1 e0)
 have e3 : bl (n * 2 ^ s) = 32 * (words n).length := by rw [e2, e, hs]; omega
 have hlt := bl_lt (n * 2 ^ s); rw [e3, Nat.pow_mul] at hlt; have l1 := words_len_le hlt; have l2 := len_mono (show n ≤ n * 2 ^ s from Nat.le_mul_of_pos_right n hp)
 have hlen : (words (n * 2 ^ s)).length = (words n).length := by omega
 refine ⟨hlen, ?_⟩
 obtain ⟨y, hy⟩ : ∃ y, (words (n * 2 ^ s))[(words n).length - 1]? = some y := ⟨_, List.getElem?_eq_getElem (by omega)⟩
 refine ⟨y, hy, ?_⟩
 have e4 := bl_words hn2 (by rw [hlen]; exact hy)
 rw [e3, hlen] at e4; have hb : bl y = 32 := by omega
 have hy0 : y ≠ 0 := by
  rintro rfl; simp [bl] at hb
 have := bl_le hy0; rw [hb] at this
 simpa using this
theorem div_start {l : List Nat} {m n s la lb jj : Nat} (hok : Wok l) (hl : l.length = la + 1) (hv : val l = m * 2 ^ s) (hm : m < 4294967296 ^ la) (hn : 4294967296 ^ (lb - 1) ≤ n) (hlb : 1 ≤ lb) (hla : lb ≤ la) (hjj : jj = la - lb + 1) : val (l.drop jj) < n * 2 ^ s := by
 have hp : 0 < 2 ^ s := Nat.pow_pos (by decide)
 rw [val_drop_div hok (by omega), hv, Nat.div_lt_iff_lt_mul (Nat.pow_pos (by decide)), Nat.mul_assoc, Nat.mul_comm (2 ^ s), ← Nat.mul_assoc]
 refine Nat.mul_lt_mul_of_pos_right (Nat.lt_of_lt_of_le hm ?_) hp
 rw [show la = (lb - 1) + jj by omega, Nat.pow_add]
 exact Nat.mul_le_mul_right _ hn
theorem div_step {lo : List Nat} {j x u M V Q : Nat} (hlo : lo.length = j) (h : val (lo ++ [x]) + 4294967296 ^ (j + 1) * u + V * (4294967296 ^ (j + 1) * Q) = M) (t : Nat) (ht : t = x + 4294967296 * u) :
 val lo + 4294967296 ^ j * (t % V) + V * (4294967296 ^ j * (t / V + 4294967296 * Q)) = M := by
 have e : val [x] = x := by simp [val]
 rw [val_append, hlo, e, pow_succ_mul, pow_succ_mul] at h; obtain ⟨p, hp⟩ : ∃ p, p = 4294967296 ^ j := ⟨_, rfl⟩; rw [← hp] at h ⊢; have k := Nat.div_add_mod t V; obtain ⟨a, ha⟩ : ∃ a, a = t / V := ⟨_, rfl⟩; obtain ⟨b, hb⟩ : ∃ b, b = t % V := ⟨_, rfl⟩; rw [← ha, ← hb] at k ⊢; have k2 : p * (V * a) + p * b = p * x + p * (4294967296 * u) := by rw [← Nat.mul_add, ← Nat.mul_add, k, ht]
 rw [Nat.mul_add p a, Nat.mul_add V, show V * (p * a) = p * (V * a) by rw [← Nat.mul_assoc, Nat.mul_comm V p, Nat.mul_assoc]]
 omega
theorem div_last {l : List Nat} {n : Nat} (hl : l.length = n + 1) (hok : Wok l) (h : val l < 4294967296 ^ n) : ∃ o, l = o ++ [0] ∧ o.length = n ∧ Wok o ∧ val o = val l := by
 have e : l.drop n = [l[n]'(by omega)] := by
  rw [List.drop_eq_getElem_cons (by omega), List.drop_eq_nil_of_le (show l.length ≤ n + 1 by omega)]
 obtain ⟨z, hz⟩ : ∃ z, z = l[n]'(by omega) := ⟨_, rfl⟩
 rw [← hz] at e; have e2 : l = l.take n ++ [z] := by rw [← e, List.take_append_drop]
 have hlen : (l.take n).length = n := by rw [List.length_take]; omega
 have a := val_append (l.take n) [z]; rw [← e2, hlen] at a; have ez : val [z] = z := by simp [val]
 rw [ez] at a
 have z0 : z = 0 := by
  rcases Nat.eq_zero_or_pos z with h0 | h0
  · exact h0
  · have := Nat.mul_le_mul_left (4294967296 ^ n) h0; omega
 subst z0; exact ⟨l.take n, e2, hlen, hok.take n, by omega⟩
theorem div_fin {mid q : List Nat} {m n s : Nat} (h : val mid + n * 2 ^ s * val q = m * 2 ^ s) (hlt : val mid < n * 2 ^ s) : val q = m / n ∧ val mid = m % n * 2 ^ s := by
 have hp : 0 < 2 ^ s := Nat.pow_pos (by decide)
 have hn : 0 < n * 2 ^ s := by omega
 have a : (val mid + n * 2 ^ s * val q) / (n * 2 ^ s) = val q := by rw [Nat.add_mul_div_left _ _ hn, Nat.div_eq_of_lt hlt, Nat.zero_add]
 have b : (val mid + n * 2 ^ s * val q) % (n * 2 ^ s) = val mid := by rw [Nat.add_mul_mod_self_left, Nat.mod_eq_of_lt hlt]
 rw [h, Nat.mul_div_mul_right m n hp] at a; rw [h, Nat.mul_mod_mul_right] at b; exact ⟨a.symm, b.symm⟩
theorem below_low {B B' : Nat} {w w' : World} (h : Below B w w') (hB : B' ≤ B) : Below B' w w' := ((Keeps.of_below (S := []) h).mono hB (fun _ _ h => h)).below
theorem Wd.own {w : World} {v : Value} {l : List Nat} (h : Wd w v l) {g : Nat} (e : v.ownBlock = some g) : g < w.heap.size := by
 rcases h with ⟨rfl, -⟩ | ⟨k, off, cap, C, rfl, h2, -⟩
 · cases e
 · simp only [Value.ownBlock, Option.some.injEq] at e; subst e; exact lt_of_block h2
theorem Wd.set {w : World} {v : Value} {l : List Nat} (h : Wd w v l) {g : Nat} (hg : ∀ k, v.ownBlock = some k → k ≠ g) (i : Nat) (x : Value) : Wd (w.setCell ⟨g, i, none⟩ x) v l :=
 h.keep (B := w.heap.size) (S := [g]) ((Keeps.refl _ _ _).set (Or.inl (by simp)) _ _) (Nat.le_refl _) (fun k hk => by simpa using hg k hk)
theorem Ro.keepS {w w' : World} {g B : Nat} {S L : List Nat} (h : Ro w g L) (k : Keeps B S w w') (hB : g < B) (hS : g ∉ S) : Ro w' g L := (k.block g hB hS).trans h
theorem Ro.wdtake {w : World} {g cap : Nat} {L R : List Nat} (h : Ro w g (L ++ R)) (hc : L.length ≤ cap) : Wd w (.slice (some ⟨g, 0, none⟩) L.length cap) L :=
 .inr ⟨g, 0, cap, cellsU (L ++ R), rfl, h, hc, fun i x hx => by
  have hi : i < L.length := by
   rcases Nat.lt_or_ge i L.length with h1 | h1
   · exact h1
   · rw [List.getElem?_eq_none h1] at hx; cases hx
  rw [Nat.zero_add, cellsU_get, List.getElem?_append_left hi, hx]; rfl⟩
theorem copy_words {ops : Array Oper} {rest : List Oper} {o : Oper} {a : Act} {Q : Exit → Act → World → Prop} (w : World) (hgd : o.guard = none) (d s : Operand)
 (ho : o.op = .call { callee := .builtin .copy, args := #[d, s], argTypes := #[84, 84] }) (g n : Nat) (hd : a.eval d = .slice (some ⟨g, 0, none⟩) n n) (Z : List Nat) (hg : Ro w g Z) (hZ : Z.length = n)
 (v : Value) (hs : a.eval s = v) (L : List Nat) (hv : Wd w v L) (hL : L.length ≤ n)
 (h : ∀ w', Hid (Ro w' g (L ++ Z.drop L.length)) → Below g w w' → wpList Tryz.prog ops Q rest (a.put o.dst (goInt L.length)) w') :
 wpList Tryz.prog ops Q (o :: rest) a w := by
 obtain ⟨ad, cap, rfl, hcap, hce⟩ := hv.form
 have h2 := wpList_copy_splice (P := Tryz.prog) (ops := ops) (rest := rest) (Q := Q) (w := w) hgd d s 84 84 ho 190 Tryz.underlying84 info32s (some ⟨g, 0, none⟩) ad n n L.length cap hd hs g 0 (Z.map fun x : Nat => Value.int .u32 x) 190 hg (L.map fun x : Nat => Value.int .u32 x)
  (by rw [List.length_map]; exact (Nat.min_eq_left hL).symm)
  (fun hp => by
    rw [List.length_map] at hp; obtain ⟨k, off, rfl, hk, hx⟩ := hce hp; refine ⟨rfl, _, rfl, fun j u hu => ?_⟩
    rw [List.getElem?_map] at hu; cases hlj : L[j]? with
    | none => rw [hlj] at hu; cases hu
    | some x =>
      rw [hlj] at hu; obtain rfl := Option.some.inj hu; rw [show (⟨k, off, none⟩ : Addr).add j = ⟨k, off + j, none⟩ by unfold Addr.add; split <;> simp_all]
      exact hx j x hlj)
  (by simp; omega)
  (fun u hu => by
    obtain ⟨t, -, rfl⟩ := List.mem_map.1 hu
    rfl)
  g w (Below.refl _ _) (Nat.le_refl _)
  (fun w' hro hbl => by
    have := h w' (hid (by
     have h5 := hro.out
     rw [show splice (Z.map fun x : Nat => Value.int .u32 x) 0 (L.map fun x : Nat => Value.int .u32 x) = (L ++ Z.drop L.length).map fun x : Nat => Value.int .u32 x by
      unfold splice; simp [List.map_drop]] at h5
     exact h5)) hbl
    rw [List.length_map]; exact this)
 exact h2
set_option maxHeartbeats 8000000 in
theorem bdivLess (va vb : Value) (m n : Nat) (w : World) (ha : Wd w va (words m)) (hb : Wd w vb (words n)) (hm : (words m).length ≤ 137438953472) (hn : (words n).length ≤ 137438953472) (hmn : m < n) :
 Calls Tryz.prog 177 #[va, vb] w fun e w' => ∃ q r, e = .returned (.tuple #[q, r]) ∧ Wd w' q (words (m / n)) ∧ Wd w' r (words (m % n)) ∧ Fresh w.heap.size q ∧ Fresh w.heap.size r ∧ Below w.heap.size w w' := by
 have CM := bcmp va vb m n w ha hb (by omega) (by omega)
 have CP := fun w' (h : Below w.heap.size w w') => bcopied va (words m) w' (ha.below h) (by omega)
 have hc : cmpN m n = -1 := by unfold cmpN; rw [if_pos hmn]
 rw [hc] at CM; rw [Nat.div_eq_of_lt hmn, Nat.mod_eq_of_lt hmn, words_0]; obtain ⟨a, ca, rfl, hca, -⟩ := ha.form; obtain ⟨b, cb, rfl, hcb, -⟩ := hb.form; clear ha hb; generalize words m = l at *; generalize words n = k at *; have CPH := hid CP; clear CP hc; go_enter Tryz.func177, Tryz.ntmps177; go_wp2_with (first | (go_at_call 141; refine CM.mono ?_; rintro e w' ⟨rfl, hdr⟩; obtain ⟨kd, rfl⟩ := hdr) | (go_at_call 188; refine (CPH.out _ ?_).mono ?_; exact ((Keeps.refl _ [] _).drewN _).below; rintro e w' ⟨g, rfl, hro, hg, hbl⟩))
 go_ret2
 exact ⟨_, _, rfl, Wd.nil _, hro.wd (Nat.le_refl _), Fresh.nil _, Fresh.own hg, Below.trans ((Keeps.refl _ [] _).drewN _).below hbl⟩
set_option maxHeartbeats 8000000 in
theorem bdivOne (va vb : Value) (m n : Nat) (w : World) (ha : Wd w va (words m)) (hb : Wd w vb (words n)) (hm : (words m).length ≤ 137438953472) (hmn : n ≤ m) (h1 : (words n).length = 1) :
 Calls Tryz.prog 177 #[va, vb] w fun e w' => ∃ q r, e = .returned (.tuple #[q, r]) ∧ Wd w' q (words (m / n)) ∧ Wd w' r (words (m % n)) ∧ Fresh w.heap.size q ∧ Fresh w.heap.size r ∧ Below w.heap.size w w' := by
 have CM := bcmp va vb m n w ha hb (by omega) (by omega)
 have hc : cmpN m n = 0 ∨ cmpN m n = 1 := by
  unfold cmpN; rw [if_neg (by omega)]
  by_cases h : n < m
  · rw [if_pos h]; exact .inr rfl
  · rw [if_neg h]; exact .inl rfl
 have hn0 : 0 < n := by
  rcases Nat.eq_zero_or_pos n with h | h
  · rw [h, words_0] at h1; cases h1
  · exact h
 have hnB := words_lt n; rw [h1, Nat.pow_one] at hnB
 have hw : words n = [n] := by
  rw [words_pos (by omega), Nat.mod_eq_of_lt hnB, Nat.div_eq_of_lt hnB, words_0]
 have DS := fun w' (h : Below w.heap.size w w') => bdivSmall va m n w' (ha.below h) (by omega) hn0 hnB
 have hr : m % n < 4294967296 := Nat.lt_trans (Nat.mod_lt _ hn0) hnB; obtain ⟨cc, hcc⟩ : ∃ cc, cc = cmpN m n := ⟨_, rfl⟩; rw [← hcc] at CM hc; have hc2 : decide (cc < 0) = false := decide_eq_false (by omega)
 obtain ⟨a, ca, rfl, hca, -⟩ := ha.form; obtain ⟨b, cb, rfl, hcb, hbx⟩ := hb.form; obtain ⟨gb, ob, rfl, hgb, hxb⟩ := hbx (by omega)
 have c0 := hxb 0 n (by rw [hw]; rfl)
 rw [Nat.add_zero] at c0; clear ha hb hxb hbx; rw [h1] at hcb CM ⊢; generalize m % n = r at *; generalize m / n = q at *; generalize words m = l at *; have DSH := hid DS; clear DS hcc hc h1 hw; haveI : Has w gb := ⟨hgb⟩; go_enter Tryz.func177, Tryz.ntmps177; go_wp2_with (first | (go_at_call 141; refine CM.mono ?_; rintro e w' ⟨rfl, hdr⟩; obtain ⟨kd, rfl⟩ := hdr) | (go_at_call 215; refine (DSH.out _ ?_).mono ?_; exact ((Keeps.refl _ [] _).drewN _).below; rintro e w2 ⟨v, rfl, hq, hf, hbl⟩))
 have R1 : Hid (Ro (w2.alloc (.cells #[.int .u32 r] 190)) w2.heap.size [r]) := hid (by unfold Ro; simp only [block_at]; rfl)
 have QW : Hid (Wd (w2.alloc (.cells #[.int .u32 r] 190)) v (words q)) := hid (hq.below (Below.alloc (Below.refl _ _) (Nat.le_refl _) _)); have BL : Hid (Below w.heap.size w (w2.alloc (.cells #[.int .u32 r] 190))) := hid (Below.alloc (Below.trans ((Keeps.refl _ [] _).drewN _).below hbl) hbl.size _); have SZ := hid hbl.size; have ok : Hid (Wok [r]) := hid (Wok.cons hr Wok.nil); have hv : Hid (words (val [r]) = words r) := hid (by simp [val])
 clear hbl hq; refine (btrim _ [r] _ (R1.out.wd (cap := 1) (Nat.le_refl _)) ok.out (by simp)).mono ?_
 rintro e w' ⟨v', rfl, hw', hb', rfl⟩; rw [hv.out] at hw'; have HW := hid hw'; clear hw'; go_wp2_with fail
 go_ret2
 exact ⟨_, _, rfl, QW.out, HW.out, hf, (Fresh.own SZ.out).of hb', BL.out⟩
set_option maxHeartbeats 8000000 in
theorem edivLess (va vb : Value) (m n : Nat) (w : World) (ha : Wd w va (words m)) (hb : Wd w vb (words n)) (hm : (words m).length ≤ 137438953472) (hn : (words n).length ≤ 137438953472) (hmn : m < n) :
 Calls Tryz.prog 203 #[va, vb] w fun e w' => ∃ q r, e = .returned (.tuple #[q, r]) ∧ Wd w' q (words (m / n)) ∧ Wd w' r (words (m % n)) ∧ Fresh w.heap.size q ∧ Fresh w.heap.size r ∧ Below w.heap.size w w' := by
 have CM := ecmp va vb m n w ha hb (by omega) (by omega)
 have CP := fun w' (h : Below w.heap.size w w') => ecopied va (words m) w' (ha.below h) (by omega)
 have hc : cmpN m n = -1 := by unfold cmpN; rw [if_pos hmn]
 rw [hc] at CM; rw [Nat.div_eq_of_lt hmn, Nat.mod_eq_of_lt hmn, words_0]; obtain ⟨a, ca, rfl, hca, -⟩ := ha.form; obtain ⟨b, cb, rfl, hcb, -⟩ := hb.form; clear ha hb; generalize words m = l at *; generalize words n = k at *; have CPH := hid CP; clear CP hc; go_enter Tryz.func203, Tryz.ntmps203; go_wp2_with (first | (go_at_call 155; refine CM.mono ?_; rintro e w' ⟨rfl, hdr⟩; obtain ⟨kd, rfl⟩ := hdr) | (go_at_call 199; refine (CPH.out _ ?_).mono ?_; exact ((Keeps.refl _ [] _).drewN _).below; rintro e w' ⟨g, rfl, hro, hg, hbl⟩))
 go_ret2
 exact ⟨_, _, rfl, Wd.nil _, hro.wd (Nat.le_refl _), Fresh.nil _, Fresh.own hg, Below.trans ((Keeps.refl _ [] _).drewN _).below hbl⟩
set_option maxHeartbeats 8000000 in
theorem edivOne (va vb : Value) (m n : Nat) (w : World) (ha : Wd w va (words m)) (hb : Wd w vb (words n)) (hm : (words m).length ≤ 137438953472) (hmn : n ≤ m) (h1 : (words n).length = 1) :
 Calls Tryz.prog 203 #[va, vb] w fun e w' => ∃ q r, e = .returned (.tuple #[q, r]) ∧ Wd w' q (words (m / n)) ∧ Wd w' r (words (m % n)) ∧ Fresh w.heap.size q ∧ Fresh w.heap.size r ∧ Below w.heap.size w w' := by
 have CM := ecmp va vb m n w ha hb (by omega) (by omega)
 have hc : cmpN m n = 0 ∨ cmpN m n = 1 := by
  unfold cmpN; rw [if_neg (by omega)]
  by_cases h : n < m
  · rw [if_pos h]; exact .inr rfl
  · rw [if_neg h]; exact .inl rfl
 have hn0 : 0 < n := by
  rcases Nat.eq_zero_or_pos n with h | h
  · rw [h, words_0] at h1; cases h1
  · exact h
 have hnB := words_lt n; rw [h1, Nat.pow_one] at hnB
 have hw : words n = [n] := by
  rw [words_pos (by omega), Nat.mod_eq_of_lt hnB, Nat.div_eq_of_lt hnB, words_0]
 have DS := fun w' (h : Below w.heap.size w w') => edivSmall va m n w' (ha.below h) (by omega) hn0 hnB
 have hr : m % n < 4294967296 := Nat.lt_trans (Nat.mod_lt _ hn0) hnB; obtain ⟨cc, hcc⟩ : ∃ cc, cc = cmpN m n := ⟨_, rfl⟩; rw [← hcc] at CM hc; have hc2 : decide (cc < 0) = false := decide_eq_false (by omega)
 obtain ⟨a, ca, rfl, hca, -⟩ := ha.form; obtain ⟨b, cb, rfl, hcb, hbx⟩ := hb.form; obtain ⟨gb, ob, rfl, hgb, hxb⟩ := hbx (by omega)
 have c0 := hxb 0 n (by rw [hw]; rfl)
 rw [Nat.add_zero] at c0; clear ha hb hxb hbx; rw [h1] at hcb CM ⊢; generalize m % n = r at *; generalize m / n = q at *; generalize words m = l at *; have DSH := hid DS; clear DS hcc hc h1 hw; haveI : Has w gb := ⟨hgb⟩; go_enter Tryz.func203, Tryz.ntmps203; go_wp2_with (first | (go_at_call 155; refine CM.mono ?_; rintro e w' ⟨rfl, hdr⟩; obtain ⟨kd, rfl⟩ := hdr) | (go_at_call 233; refine (DSH.out _ ?_).mono ?_; exact ((Keeps.refl _ [] _).drewN _).below; rintro e w2 ⟨v, rfl, hq, hf, hbl⟩))
 have R1 : Hid (Ro (w2.alloc (.cells #[.int .u32 r] 190)) w2.heap.size [r]) := hid (by unfold Ro; simp only [block_at]; rfl)
 have QW : Hid (Wd (w2.alloc (.cells #[.int .u32 r] 190)) v (words q)) := hid (hq.below (Below.alloc (Below.refl _ _) (Nat.le_refl _) _)); have BL : Hid (Below w.heap.size w (w2.alloc (.cells #[.int .u32 r] 190))) := hid (Below.alloc (Below.trans ((Keeps.refl _ [] _).drewN _).below hbl) hbl.size _); have SZ := hid hbl.size; have ok : Hid (Wok [r]) := hid (Wok.cons hr Wok.nil); have hv : Hid (words (val [r]) = words r) := hid (by simp [val])
 clear hbl hq; refine (etrim _ [r] _ (R1.out.wd (cap := 1) (Nat.le_refl _)) ok.out (by simp)).mono ?_
 rintro e w' ⟨v', rfl, hw', hb', rfl⟩; rw [hv.out] at hw'; have HW := hid hw'; clear hw'; go_wp2_with fail
 go_ret2
 exact ⟨_, _, rfl, QW.out, HW.out, hf, (Fresh.own SZ.out).of hb', BL.out⟩
end Go.Proofs.YthjeejnggpjnjaaGreatDoor
