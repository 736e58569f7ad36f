/- Zeros less poles, of the given program: what the call does. -/
import Derived.Test.YtbocjicihamahaaN
set_option linter.unusedSimpArgs false
set_option linter.unusedVariables false
namespace Go.Proofs.Ytbocjicihamahaa
open Go.RowKit

theorem plus_plus (w : World) (os os' : Array Obj) (d d' : Nat) : (w.plus os d).plus os' d' = w.plus (os ++ os') d' := by
  simp [World.plus, Array.append_assoc]
theorem deepS_ok {dn : Nat} (h : dn ≤ 24) : deepS dn = 0 := by
  unfold deepS
  rw [if_neg (by omega), if_neg (by omega)]
set_option maxRecDepth 100000 in
set_option maxHeartbeats 4000000 in
theorem both_ok (l k : List Pl) (x : Bx) (dp : Int) (b off cap b2 off2 cap2 : Nat) (w : World) (m n : Int) (hok : polyOk l = true) (hok2 : polyOk k = true) (hl : askedS l = 0) (hk : askedS k = 0)
    (hb : b < w.heap.size) (hrd : reads w b off l) (hb2 : b2 < w.heap.size) (hrd2 : reads w b2 off2 k) (h : zerosS l x dp = some (m, 0)) (h2 : zerosS k x dp = some (n, 0)) (hm : -1000 ≤ m ∧ m ≤ 1000) (hn : -1000 ≤ n ∧ n ≤ 1000) :
    Calls Try.prog 7 #[.agg #[.slice (some ⟨b, off, none⟩) l.length cap, .slice (some ⟨b2, off2, none⟩) k.length cap2], .agg #[.complex .f64 x.1.1 x.1.2, .complex .f64 x.2.1 x.2.2], .int .i64 dp] w fun e w' =>
      e = .returned (.tuple #[.int .i64 (m - n), .int .i64 0]) ∧ Below w.heap.size w w' := by
  haveI : Has w b := ⟨hb⟩
  haveI : Has w b2 := ⟨hb2⟩
  have H := hid h
  have H2 := hid h2
  have RD := hid hrd
  have RD2 := hid hrd2
  have LS := hid hl
  have KS := hid hk
  clear h hrd h2 hrd2 hl hk
  go_enter Try.func7, Try.ntmps7
  go_upto_region 1 with fail
  go_cut [8] (fun s8 wx => s8 = .int .i64 0 ∧ ∃ os dd, wx = ((w.alloc (.cells #[.slice (some ⟨b, off, none⟩) l.length cap, .slice (some ⟨b2, off2, none⟩) k.length cap2] 34)).alloc (.cells #[.complex .f64 x.1.1 x.1.2, .complex .f64 x.2.1 x.2.2] 29)).plus os dd)
  case first =>
    go_region_held3 (fun W => W.cell? ⟨w.heap.size, 0, none⟩ = some (.slice (some ⟨b, off, none⟩) l.length cap) ∧ W.cell? ⟨w.heap.size, 1, none⟩ = some (.slice (some ⟨b2, off2, none⟩) k.length cap2)) (refine ⟨?_, ?_⟩ <;> (simp [go_sem]; done)) (first | (go_at_call 12; ((with_reducible refine (casked_any l b off cap _ hok (reads_of (fun o => by simp [go_sem]) RD.out) Has.lt).mono ?_); rintro e wq ⟨rfl, rfl⟩)) | (go_at_call 12; ((with_reducible refine (casked_any k b2 off2 cap2 _ hok2 (reads_of (fun o => by simp [go_sem]) RD2.out) Has.lt).mono ?_); rintro e wq ⟨rfl, rfl⟩)) | (go_at_call 19; ((with_reducible refine (polycheck_ok l b off cap _ hok (reads_of (fun o => by simp [go_sem]) RD.out)).mono ?_); rintro e wq ⟨rfl, rfl⟩)) | (go_at_call 19; ((with_reducible refine (polycheck_ok k b2 off2 cap2 _ hok2 (reads_of (fun o => by simp [go_sem]) RD2.out)).mono ?_); rintro e wq ⟨rfl, rfl⟩)) | (go_at_call 11; ((with_reducible refine Calls.mono (first4 0 0 (askedS l) (askedS k) _ 22 _ (by simp only [block_drew, block_at])) ?_); rintro e wq ⟨rfl, rfl⟩)))
    all_goals
      go_wp2_with fail
      go_meet
      refine ⟨?_, plus_of_below ?_⟩
      · rw [LS.out, KS.out]; rfl
      · (repeat' (first | exact Below.refl _ _ | (refine Below.alloc ?_ ?_ _) | (refine below_plus ?_ ?_ _ _) | (refine Below.drew ?_) | (refine Below.setCell ?_ ?_ _) | (simp; done) | (simp; omega) | assumption))
  case rest =>
    obtain ⟨rfl, os, dd, rfl⟩ := hcut
    go_wp2_with (first | (go_at_call 4; ((with_reducible refine (zeros_any l x dp b off cap _ (m, 0) hok Has.lt (reads_of (fun o => by simp [go_sem]) RD.out) H.out).mono ?_); rintro e wq ⟨rfl, hb⟩); obtain ⟨os, d, rfl⟩ := plus_of_below hb; clear hb) | (go_at_call 4; ((with_reducible refine (zeros_any k x dp b2 off2 cap2 _ (n, 0) hok2 Has.lt (reads_of (fun o => by simp [go_sem]) RD2.out) H2.out).mono ?_); rintro e wq ⟨rfl, hb⟩); obtain ⟨os, d, rfl⟩ := plus_of_below hb; clear hb))
    go_ret2
    exact ⟨rfl, by (repeat' (first | exact Below.refl _ _ | (refine Below.alloc ?_ ?_ _) | (refine below_plus ?_ ?_ _ _) | (refine Below.drew ?_) | (refine Below.setCell ?_ ?_ _) | (simp; done) | (simp; omega) | assumption))⟩
set_option maxRecDepth 100000 in
set_option maxHeartbeats 2000000 in
theorem rclo_ok (l path : List Pl) (b off cap pa poff pcap cw cp cd cn pb : Nat) (hbp : b ≠ pb) (hpp : pa ≠ pb) (hcn : cn ≠ pb) (hlen : 0 < path.length) (hlen2 : path.length ≤ 4096) (d : Nat) (hd : d ≤ 24) (v0 old : Value) (w : World) (m : Nat) (ks : List Int)
    (hb : b < w.heap.size) (hpa : pa < w.heap.size) (hblk : w.heap[pb]? = some (.cells #[.slice (some ⟨b, off, none⟩) l.length cap, .int .i64 0, v0] 48 (0, 0))) (hrd : reads w b off l) (hrp : reads w pa poff path)
    (hcw : w.cell? ⟨cw, 0, none⟩ = some (.pointer (some ⟨pb, 0, none⟩))) (hcp : w.cell? ⟨cp, 0, none⟩ = some (.slice (some ⟨pa, poff, none⟩) path.length pcap))
    (hcd : w.cell? ⟨cd, 0, none⟩ = some (.int .i64 d)) (hcnn : w.heap[cn]? = some (.cells #[old] 3 (0, 0)))
    (h : overGo l d path path.length 0 0 [] = some (true, m, ks)) :
    Calls Try.prog 21 #[.pointer (some ⟨cw, 0, none⟩), .pointer (some ⟨cp, 0, none⟩), .pointer (some ⟨cd, 0, none⟩), .pointer (some ⟨cn, 0, none⟩)] w fun e w' =>
      e = .returned (.tuple #[]) ∧ ∃ v' w1, w1.heap[pb]? = some (.cells #[.slice (some ⟨b, off, none⟩) l.length cap, .int .i64 m, v'] 48 (0, 0)) ∧ Only w.heap.size pb w w1 ∧
        w' = w1.setCell ⟨cn, 0, none⟩ (.int .i64 (roundS ks)) := by
  haveI : Has w pb := ⟨lt_of_block hblk⟩
  haveI : Has w b := ⟨hb⟩
  haveI : Has w cw := ⟨World.block_lt_of_cell? _ _ hcw⟩
  haveI : Has w cp := ⟨World.block_lt_of_cell? _ _ hcp⟩
  haveI : Has w cd := ⟨World.block_lt_of_cell? _ _ hcd⟩
  haveI : Has w cn := ⟨lt_of_block hcnn⟩
  have H := hid h
  have RD := hid hrd
  have RP := hid hrp
  have BLK := hid hblk
  have CNN := hid hcnn
  clear h hblk hrd hrp hcnn
  go_enter Try.func21, Try.ntmps21
  go_wp2_with fail
  refine (closed_any l path b off cap pa poff pcap pb hbp hpp d hd hlen hlen2 0 v0 w (true, m, ks) (by omega) hb hpa BLK.out RD.out RP.out H.out (overGo_ne hlen H.out)).mono ?_
  rintro e wq ⟨hee, v', hbl', hO'⟩
  obtain rfl : e = .returned (.int .i64 (roundS ks)) := hee
  have bcn : wq.heap[cn]? = some (.cells #[old] 3 (0, 0)) := (hO'.block cn Has.lt hcn).trans CNN.out
  have ccn := cell_of_block bcn 0
  have fcn := free_of_block bcn 0
  simp at ccn
  haveI : Has wq cn := ⟨lt_of_block bcn⟩
  clear bcn hcw hcp hcd
  go_wp2_with fail
  go_end0
  exact ⟨rfl, v', wq, hbl', hO', rfl⟩
set_option maxRecDepth 100000 in
set_option maxHeartbeats 4000000 in
theorem round_ok (l path : List Pl) (dn : Nat) (b off cap b2 off2 cap2 : Nat) (w : World) (m : Nat) (ks : List Int) (hok : polyOk l = true) (hl : askedS l = 0) (h3 : 3 ≤ path.length) (hn : path.length ≤ 4096) (hp : ∀ i, i < path.length → cwithin (path.getD i (0, 0)).1 (path.getD i (0, 0)).2 maxReal = true) (hdn : dn ≤ 24)
    (hb : b < w.heap.size) (hrd : reads w b off l) (hb2 : b2 < w.heap.size) (hrd2 : reads w b2 off2 path) (h : overGo l dn path path.length 0 0 [] = some (true, m, ks)) :
    Calls Try.prog 8 #[.slice (some ⟨b, off, none⟩) l.length cap, .slice (some ⟨b2, off2, none⟩) path.length cap2, .int .i64 dn] w fun e w' =>
      e = .returned (.tuple #[.int .i64 (roundS ks), .int .i64 m, .int .i64 0]) ∧ Below w.heap.size w w' := by
  haveI : Has w b := ⟨hb⟩
  haveI : Has w b2 := ⟨hb2⟩
  have hmf := run_makeFunc
  have H := hid h
  have RD := hid hrd
  have RD2 := hid hrd2
  have LS := hid hl
  have HP := hid hp
  clear h hrd hrd2 hl hp
  go_enter Try.func8, Try.ntmps8
  go_upto_region 1 with fail
  go_cut [9] (fun s9 wx => s9 = .int .i64 0 ∧ ∃ os dd, wx = (((w.alloc (.cells #[.slice (some ⟨b2, off2, none⟩) path.length cap2] 25)).alloc (.cells #[.int .i64 dn] 3)).alloc (.cells #[.int .i64 0] 3)).plus os dd)
  case first =>
    go_region_held3 (fun W => W.cell? ⟨w.heap.size, 0, none⟩ = some (.slice (some ⟨b2, off2, none⟩) path.length cap2) ∧ W.cell? ⟨w.heap.size + 1, 0, none⟩ = some (.int .i64 dn)) (refine ⟨?_, ?_⟩ <;> (simp [go_sem]; done)) (first | (go_at_call 12; ((with_reducible refine (casked_any l b off cap _ hok (reads_of (fun o => by simp [go_sem]) RD.out) Has.lt).mono ?_); rintro e wq ⟨rfl, rfl⟩)) | (go_at_call 14; ((with_reducible refine (deep_any dn _).mono ?_); rintro e wq ⟨rfl, rfl⟩)) | (go_at_call 20; ((with_reducible refine (path_ok path b2 off2 cap2 _ h3 hn (reads_of (fun o => by simp [go_sem]) RD2.out) HP.out).mono ?_); rintro e wq ⟨rfl, rfl⟩)) | (go_at_call 11; ((with_reducible refine Calls.mono (first3 (askedS l) 0 (deepS dn) _ 22 _ (by simp only [block_drew, block_at])) ?_); rintro e wq ⟨rfl, rfl⟩)))
    all_goals
      go_wp2_with fail
      go_meet
      refine ⟨?_, plus_of_below ?_⟩
      · rw [LS.out, deepS_ok hdn]; rfl
      · (repeat' (first | exact Below.refl _ _ | (refine Below.alloc ?_ ?_ _) | (refine below_plus ?_ ?_ _ _) | (refine Below.drew ?_) | (refine Below.setCell ?_ ?_ _) | (simp; done) | (simp; omega) | assumption))
  case rest =>
    obtain ⟨rfl, os, dd, rfl⟩ := hcut
    go_wp2_with fail
    refine (surely_any 21 _ _ true (fun w' => ∃ w1 v', w1.heap[w.heap.size + 1 + 1 + 1 + os.size]? = some (.cells #[.slice (some ⟨b, off, none⟩) l.length cap, .int .i64 m, v'] 48 (0, 0)) ∧ Only (w.heap.size + 1 + 1 + 1 + os.size + 1 + 1) (w.heap.size + 1 + 1 + 1 + os.size) ((((((w.alloc (.cells #[.slice (some ⟨b2, off2, none⟩) path.length cap2] 25)).alloc (.cells #[.int .i64 dn] 3)).alloc (.cells #[.int .i64 0] 3)).plus os dd).alloc (.cells #[.slice (some ⟨b, off, none⟩) l.length cap, .int .i64 0, .slice none 0 0] 48)).alloc (.cells #[.pointer (some ⟨w.heap.size + 1 + 1 + 1 + os.size, 0, none⟩)] 46)) w1 ∧ w' = w1.setCell ⟨w.heap.size + 1 + 1, 0, none⟩ (.int .i64 (roundS ks))) (fun _ => rfl) ((rclo_ok l path b off cap b2 off2 cap2 (w.heap.size + 1 + 1 + 1 + os.size + 1) w.heap.size (w.heap.size + 1) (w.heap.size + 1 + 1) (w.heap.size + 1 + 1 + 1 + os.size) (by omega) (by omega) (by omega) (by omega) hn dn hdn (.slice none 0 0) (.int .i64 0) _ m ks Has.lt Has.lt ?_ ?_ ?_ ?_ ?_ ?_ ?_ H.out).mono ?_)).mono ?_
    · simp only [block_alloc', block_plus', block_drew, block_at]
    · exact reads_of (fun o => by simp [go_sem]) RD.out
    · exact reads_of (fun o => by simp [go_sem]) RD2.out
    · simp [go_sem]
    · simp [go_sem]
    · simp [go_sem]
    · simp only [block_alloc', block_plus', block_drew, block_at]
    · rintro e w' ⟨he, v', w1, hb1, hO, rfl⟩
      refine ⟨he, ?_, w1, v', hb1, ?_, rfl⟩
      · have hbool := (hO.block (w.heap.size + 1 + 1 + 1 + os.size + 1 + 1) (by simp) (by omega)).trans (block_at _ _ _)
        simp only [World.size_alloc, size_plus]
        rw [block_ne _ _ _ _ _ (by omega)]
        exact hbool
      · exact Only.trans (Only.alloc (Only.refl _ _ _) (by simp) _) (hO.mono (by simp))
    · rintro e w'' ⟨rfl, w1x, ⟨w1, v', hb1, hO, rfl⟩, hlt, hB⟩
      have hW : Below w.heap.size w ((((((w.alloc (.cells #[.slice (some ⟨b2, off2, none⟩) path.length cap2] 25)).alloc (.cells #[.int .i64 dn] 3)).alloc (.cells #[.int .i64 0] 3)).plus os dd).alloc (.cells #[.slice (some ⟨b, off, none⟩) l.length cap, .int .i64 0, .slice none 0 0] 48)).alloc (.cells #[.pointer (some ⟨w.heap.size + 1 + 1 + 1 + os.size, 0, none⟩)] 46)) := by (repeat' (first | exact Below.refl _ _ | (refine Below.alloc ?_ ?_ _) | (refine below_plus ?_ ?_ _ _) | (refine Below.drew ?_) | (refine Below.setCell ?_ ?_ _) | (simp; done) | (simp; omega) | assumption))
      have h1 : Below w.heap.size w w1 := below_only hW hO (by omega) (by omega)
      simp only [World.size_alloc, size_plus] at hB
      have hcw : w''.cell? ⟨w.heap.size + 1 + 1 + 1 + os.size + 1, 0, none⟩ = some (.pointer (some ⟨w.heap.size + 1 + 1 + 1 + os.size, 0, none⟩)) := by
        have h3 := (hO.block (w.heap.size + 1 + 1 + 1 + os.size + 1) (by omega) (by omega)).trans (block_at _ _ _)
        have h4 := (block_ne w1 (w.heap.size + 1 + 1) 0 _ (.int .i64 (roundS ks)) (by omega)).trans h3
        have h5 := (hB.block (w.heap.size + 1 + 1 + 1 + os.size + 1) (by omega)).trans h4
        simpa using cell_of_block h5 0
      have hbp : w''.heap[w.heap.size + 1 + 1 + 1 + os.size]? = some (.cells #[.slice (some ⟨b, off, none⟩) l.length cap, .int .i64 m, v'] 48 (0, 0)) :=
        (hB.block (w.heap.size + 1 + 1 + 1 + os.size) (by omega)).trans ((block_ne w1 (w.heap.size + 1 + 1) 0 _ (.int .i64 (roundS ks)) (by omega)).trans hb1)
      have hbn : w''.heap[w.heap.size + 1 + 1]? = some (.cells #[.int .i64 (roundS ks)] 3 (0, 0)) := by
        have h3 := (hO.block (w.heap.size + 1 + 1) (by omega) (by omega)).trans (show _ = some (.cells #[.int .i64 0] 3 (0, 0)) by simp only [block_alloc', block_plus', block_drew, block_at])
        have h4 := set_of_block h3 0 (.int .i64 (roundS ks))
        exact (hB.block (w.heap.size + 1 + 1) (by omega)).trans h4
      have hfin : Below w.heap.size w w'' := (Below.setCell (p := ⟨w.heap.size + 1 + 1, 0, none⟩) h1 (by show w.heap.size ≤ w.heap.size + 1 + 1; omega) _).trans (hB.mono (by omega))
      have cn0 := cell_of_block hbn 0
      have fn0 := free_of_block hbn 0
      have cp1 := cell_of_block hbp 1
      simp at cn0 cp1
      haveI : Has w'' (w.heap.size + 1 + 1) := ⟨lt_of_block hbn⟩
      clear hW h1 hO hB hlt hbp hb1
      go_wp2_with fail
      go_region
      all_goals
        go_wp2_with fail
        refine bodyPost_ret (v := .tuple #[.int .i64 (roundS ks), .int .i64 m, .int .i64 0]) (by simp [results, Try.results8, go_sem, cn0]) rfl ⟨rfl, ?_⟩
        exact Below.drew (Below.setCell (p := ⟨w.heap.size + 1 + 1, 0, none⟩) hfin (by show w.heap.size ≤ w.heap.size + 1 + 1; omega) _)
theorem round_short (l path : List Pl) (dn : Nat) (b off cap b2 off2 cap2 : Nat) (w : World) (hok : polyOk l = true) (hl : askedS l = 0) (h3 : path.length < 3) (hdn : dn ≤ 24)
    (hb : b < w.heap.size) (hrd : reads w b off l) :
    Calls Try.prog 8 #[.slice (some ⟨b, off, none⟩) l.length cap, .slice (some ⟨b2, off2, none⟩) path.length cap2, .int .i64 dn] w fun e w' =>
      e = .returned (.tuple #[.int .i64 0, .int .i64 0, .int .i64 4]) ∧ Below w.heap.size w w' := by
  haveI : Has w b := ⟨hb⟩
  have RD := hid hrd
  have LS := hid hl
  clear hrd hl
  go_enter Try.func8, Try.ntmps8
  go_upto_region 1 with fail
  go_cut [9] (fun s9 wx => s9 = .int .i64 4 ∧ ∃ os dd, wx = (((w.alloc (.cells #[.slice (some ⟨b2, off2, none⟩) path.length cap2] 25)).alloc (.cells #[.int .i64 dn] 3)).alloc (.cells #[.int .i64 0] 3)).plus os dd)
  case first =>
    go_region_held3 (fun W => W.cell? ⟨w.heap.size, 0, none⟩ = some (.slice (some ⟨b2, off2, none⟩) path.length cap2) ∧ W.cell? ⟨w.heap.size + 1, 0, none⟩ = some (.int .i64 dn)) (refine ⟨?_, ?_⟩ <;> (simp [go_sem]; done)) (first | (go_at_call 12; ((with_reducible refine (casked_any l b off cap _ hok (reads_of (fun o => by simp [go_sem]) RD.out) Has.lt).mono ?_); rintro e wq ⟨rfl, rfl⟩)) | (go_at_call 14; ((with_reducible refine (deep_any dn _).mono ?_); rintro e wq ⟨rfl, rfl⟩)) | (go_at_call 20; ((with_reducible refine (path_short path b2 off2 cap2 _ h3).mono ?_); rintro e wq ⟨rfl, rfl⟩)) | (go_at_call 11; ((with_reducible refine Calls.mono (first3 (askedS l) 4 (deepS dn) _ 22 _ (by simp only [block_drew, block_at])) ?_); rintro e wq ⟨rfl, rfl⟩)))
    all_goals
      go_wp2_with fail
      go_meet
      refine ⟨?_, plus_of_below ?_⟩
      · rw [LS.out, deepS_ok hdn]; rfl
      · (repeat' (first | exact Below.refl _ _ | (refine Below.alloc ?_ ?_ _) | (refine below_plus ?_ ?_ _ _) | (refine Below.drew ?_) | (refine Below.setCell ?_ ?_ _) | (simp; done) | (simp; omega) | assumption))
  case rest =>
    obtain ⟨rfl, os, dd, rfl⟩ := hcut
    go_wp2_with fail
    refine bodyPost_ret (v := .tuple #[.int .i64 0, .int .i64 0, .int .i64 4]) (by simp [results, Try.results8, go_sem]) rfl ⟨rfl, by (repeat' (first | exact Below.refl _ _ | (refine Below.alloc ?_ ?_ _) | (refine below_plus ?_ ?_ _ _) | (refine Below.drew ?_) | (refine Below.setCell ?_ ?_ _) | (simp; done) | (simp; omega) | assumption))⟩
end Go.Proofs.Ytbocjicihamahaa
