/- CountNames, of the given program: the call returns true. -/
import Derived.Test.YtbocjicihamahaaY4
import Derived.Test.YtbocjicihamahaaQ2
import Derived.Test.YtbocjicihamahaaQ3
set_option linter.unusedSimpArgs false
set_option linter.unusedVariables false
namespace Go.Proofs.Ytbocjicihamahaa
open Go.RowKit

theorem l_any (v : Option Addr) (n c : Nat) (w : World) : Calls Try.prog 5 #[.slice v n c] w fun e w' => e = .returned (.slice v n c) ∧ w = w' := by
  go_enter Try.func5, Try.ntmps5
  go_wp2
  go_ret
  exact ⟨rfl, rfl⟩
theorem neg_two : Op.negFloat .f64 4611686018427387904 = 13835058055282163712 := by kernel_rfl
theorem neg_half : Op.negFloat .f64 4602678819172646912 = 13826050856027422720 := by kernel_rfl
theorem b_any (a m : Nat) (w : World) (hm : Op.negFloat .f64 a = m) :
    Calls Try.prog 6 #[.float .f64 a] w fun e w' => e = .returned (.agg #[.complex .f64 m m, .complex .f64 a a]) ∧ Below w.heap.size w w' := by
  have h4 := run_neg
  have HM := hid hm
  clear hm
  go_enter Try.func6, Try.ntmps6
  go_wp2
  go_returns
  exact ⟨by rw [HM.out], by go_grown⟩
theorem reads_cells (l : List Pl) (g : Nat) (w : World) (h : w.heap[g]? = some (.cells (cellsOf l) 27 (0, 0))) : reads w g 0 l := by
  intro i hi
  rw [cell_of_block h, Nat.zero_add]
  unfold cellsOf
  rw [List.getElem?_toArray, List.getElem?_map, List.getElem?_eq_getElem hi, List.getD_eq_getElem?_getD, List.getElem?_eq_getElem hi]
  rfl
theorem zeros_call (l : List Pl) (n : Nat) (x : Bx) (dp : Int) (a c : Int) (g : Nat) (w : World) (hn : l.length = n) (hok : polyOk l = true) (h : zerosS l x dp = some (a, c)) (hg : w.heap[g]? = some (.cells (cellsOf l) 27 (0, 0))) :
    Calls Try.prog 4 #[.slice (some ⟨g, 0, none⟩) n n, .agg #[.complex .f64 x.1.1 x.1.2, .complex .f64 x.2.1 x.2.2], .int .i64 dp] w fun e w' => e = .returned (.tuple #[.int .i64 a, .int .i64 c]) ∧ Below w.heap.size w w' := by
  subst hn
  exact zeros_any l x dp g 0 l.length w (a, c) hok (lt_of_block hg) (reads_cells l g w hg) h
theorem both_call (l k : List Pl) (n n2 : Nat) (x : Bx) (dp : Int) (a c : Int) (g g2 : Nat) (w : World) (hn : l.length = n) (hn2 : k.length = n2) (hok : polyOk l = true) (hok2 : polyOk k = true) (hl : askedS l = 0) (hk : askedS k = 0)
    (h : zerosS l x dp = some (a, 0)) (h2 : zerosS k x dp = some (c, 0)) (ha : -1000 ≤ a ∧ a ≤ 1000) (hc : -1000 ≤ c ∧ c ≤ 1000) (hg : w.heap[g]? = some (.cells (cellsOf l) 27 (0, 0))) (hg2 : w.heap[g2]? = some (.cells (cellsOf k) 27 (0, 0))) :
    Calls Try.prog 7 #[.agg #[.slice (some ⟨g, 0, none⟩) n n, .slice (some ⟨g2, 0, none⟩) n2 n2], .agg #[.complex .f64 x.1.1 x.1.2, .complex .f64 x.2.1 x.2.2], .int .i64 dp] w fun e w' => e = .returned (.tuple #[.int .i64 (a - c), .int .i64 0]) ∧ Below w.heap.size w w' := by
  subst hn hn2
  exact both_ok l k x dp g 0 l.length g2 0 k.length w a c hok hok2 hl hk (lt_of_block hg) (reads_cells l g w hg) (lt_of_block hg2) (reads_cells k g2 w hg2) h h2 ha hc
theorem round_call (l path : List Pl) (n n2 : Nat) (dn : Nat) (g g2 : Nat) (w : World) (m : Nat) (ks : List Int) (hn : l.length = n) (hn2 : path.length = n2) (hok : polyOk l = true) (hl : askedS l = 0) (h3 : 3 ≤ path.length) (h4 : path.length ≤ 4096)
    (hp : ∀ i, i < path.length → cwithin (path.getD i (0, 0)).1 (path.getD i (0, 0)).2 maxReal = true) (hdn : dn ≤ 24) (h : overGo l dn path path.length 0 0 [] = some (true, m, ks)) (hg : w.heap[g]? = some (.cells (cellsOf l) 27 (0, 0))) (hg2 : w.heap[g2]? = some (.cells (cellsOf path) 27 (0, 0))) :
    Calls Try.prog 8 #[.slice (some ⟨g, 0, none⟩) n n, .slice (some ⟨g2, 0, none⟩) n2 n2, .int .i64 dn] w fun e w' => e = .returned (.tuple #[.int .i64 (roundS ks), .int .i64 m, .int .i64 0]) ∧ Below w.heap.size w w' := by
  subst hn hn2
  exact round_ok l path dn g 0 l.length g2 0 path.length w m ks hok hl h3 h4 hp hdn (lt_of_block hg) (reads_cells l g w hg) (lt_of_block hg2) (reads_cells path g2 w hg2) h
theorem find_call (l : List Pl) (ln : Nat) (x : Bx) (dn : Nat) (g0 : Nat) (w : World) (m n : Nat) (ks : List Int) (K : Nat) (f g : Fd) (hn : l.length = ln) (hok : polyOk l = true) (hl : askedS l = 0) (hx : insideS x = 0) (hdn : dn ≤ 24)
    (h : overGo l dn (borderS x) 4 0 0 [] = some (true, m, ks)) (hm : m ≤ 16384) (hA : apartS l 4602678819172646912 dn K (x, roundS ks) 0 m [] = some (n, [f, g]))
    (h0 : 0 ≤ ordS g.1.1 f.1.1) (h1 : feq f.1.1.1 f.1.1.1 = true) (h2 : feq f.1.1.2 f.1.1.2 = true) (h3 : feq g.1.1.1 g.1.1.1 = true) (h4 : feq g.1.1.2 g.1.1.2 = true) (hg : w.heap[g0]? = some (.cells (cellsOf l) 27 (0, 0))) :
    Calls Try.prog 9 #[.slice (some ⟨g0, 0, none⟩) ln ln, .agg #[.complex .f64 x.1.1 x.1.2, .complex .f64 x.2.1 x.2.2], .float .f64 4602678819172646912, .int .i64 dn] w (FindPost f g w) := by
  subst hn
  exact find_ok l x dn g0 0 l.length w m n ks K f g hok hl hx hdn (lt_of_block hg) (reads_cells l g0 w hg) h hm hA h0 h1 h2 h3 h4
theorem rt2 : roundS [3, 0, 1, 2] = 1 := by decide
theorem rt3 : roundS [1, 0, 3, 2] = -1 := by decide

theorem short_call (l path : List Pl) (n n2 : Nat) (dn : Nat) (g g2 : Nat) (w : World) (hn : l.length = n) (hn2 : path.length = n2) (hok : polyOk l = true) (hl : askedS l = 0) (h3 : path.length < 3) (hdn : dn ≤ 24) (hg : w.heap[g]? = some (.cells (cellsOf l) 27 (0, 0))) :
    Calls Try.prog 8 #[.slice (some ⟨g, 0, none⟩) n n, .slice (some ⟨g2, 0, none⟩) n2 n2, .int .i64 dn] w fun e w' => e = .returned (.tuple #[.int .i64 0, .int .i64 0, .int .i64 4]) ∧ Below w.heap.size w w' := by
  subst hn hn2
  exact round_short l path dn g 0 l.length g2 0 path.length w hok hl h3 hdn (lt_of_block hg) (reads_cells l g w hg)
theorem cin1 : cwithin 13835058055282163712 13835058055282163712 maxReal = true := by kernel_rfl
theorem cin2 : cwithin 4611686018427387904 13835058055282163712 maxReal = true := by kernel_rfl
theorem cin3 : cwithin 4611686018427387904 4611686018427387904 maxReal = true := by kernel_rfl
theorem cin4 : cwithin 13835058055282163712 4611686018427387904 maxReal = true := by kernel_rfl
theorem pcc_in : ∀ i, i < pcc.length → cwithin (pcc.getD i (0, 0)).1 (pcc.getD i (0, 0)).2 maxReal = true := by
  intro i hi
  have : i = 0 ∨ i = 1 ∨ i = 2 ∨ i = 3 := by
    have : pcc.length = 4 := rfl
    omega
  rcases this with rfl | rfl | rfl | rfl
  · exact cin1
  · exact cin2
  · exact cin3
  · exact cin4
theorem pcw_in : ∀ i, i < pcw.length → cwithin (pcw.getD i (0, 0)).1 (pcw.getD i (0, 0)).2 maxReal = true := by
  intro i hi
  have : i = 0 ∨ i = 1 ∨ i = 2 ∨ i = 3 := by
    have : pcw.length = 4 := rfl
    omega
  rcases this with rfl | rfl | rfl | rfl
  · exact cin4
  · exact cin3
  · exact cin2
  · exact cin1
def fd1 : Fd := ((((13821547256400052224, 13831117405608214528), (4584664420663164928, 13829710030724661248))), 1)
def fd2 : Fd := ((((13821547256400052224, 4606056518893174784), (4584664420663164928, 4607886106241794048))), 1)
theorem ord12 : ordS fd2.1.1 fd1.1.1 = 1 := by kernel_rfl
set_option maxRecDepth 100000 in
set_option maxHeartbeats 2000000 in
theorem alive_any (w : World) : Calls Try.prog 10 #[] w fun e w' => e = .returned (.bool true) ∧ Below w.heap.size w w' := by
  go_enter Try.func10, Try.ntmps10
  go_wp2_with (first | (go_at_call 5; ((with_reducible refine (l_any _ _ _ _).mono ?_); rintro e w' ⟨rfl, rfl⟩)) | (go_at_call 6; ((with_reducible refine (b_any 4611686018427387904 _ _ neg_two).mono ?_); rintro e wq ⟨rfl, hb⟩); obtain ⟨os, dd, rfl⟩ := plus_of_below hb; clear hb))
  refine (zeros_call [(4607182418800017408, 0), (0, 0), (4607182418800017408, 0)] 3 b2 8 2 0 w.heap.size _ rfl (by kernel_rfl) ev_a1 ?g0).mono ?_
  case g0 => simp only [block_plus', block_alloc', block_at]; rfl
  rintro e w0 ⟨rfl, hb⟩
  have HB0 : Hid (Below w.heap.size w w0) := by
    refine hid (Below.trans ?_ (hb.mono ?_))
    · (repeat' (first | exact Below.refl _ _ | (refine Below.alloc ?_ ?_ _) | (refine below_plus ?_ ?_ _ _) | (refine Below.drew ?_) | (simp; done) | omega | (simp; omega)))
    · first | (simp; done) | (simp; omega)
  clear hb
  go_wp2_with (first | (go_at_call 5; ((with_reducible refine (l_any _ _ _ _).mono ?_); rintro e w' ⟨rfl, rfl⟩)) | (go_at_call 6; ((with_reducible refine (b_any 4602678819172646912 _ _ neg_half).mono ?_); rintro e wq ⟨rfl, hb⟩); obtain ⟨os, dd, rfl⟩ := plus_of_below hb; clear hb))
  refine (zeros_call [(4607182418800017408, 0), (0, 0), (4607182418800017408, 0)] 3 bh 8 0 0 w0.heap.size _ rfl (by kernel_rfl) ev_a2 ?g1).mono ?_
  case g1 => simp only [block_plus', block_alloc', block_at]; rfl
  rintro e w1 ⟨rfl, hb⟩
  have HB1 : Hid (Below w.heap.size w w1) := by
    have hz := HB0.out.size
    refine hid (Below.trans ?_ (hb.mono ?_))
    · (repeat' (first | exact HB0.out | (refine Below.alloc ?_ ?_ _) | (refine below_plus ?_ ?_ _ _) | (refine Below.drew ?_) | (simp; done) | omega | (simp; omega)))
    · first | (simp; done) | (simp; omega)
  clear hb
  go_wp2_with (first | (go_at_call 5; ((with_reducible refine (l_any _ _ _ _).mono ?_); rintro e w' ⟨rfl, rfl⟩)))
  refine (round_call [(0, 0), (4607182418800017408, 0)] pcc 2 4 8 w1.heap.size (w1.heap.size + 1) _ 4 [3, 0, 1, 2] rfl rfl (by kernel_rfl) (by kernel_rfl) (by decide) (by decide) pcc_in (by decide) ev_r1 ?g2 ?h2).mono ?_
  case g2 => simp only [block_plus', block_alloc', block_at]; rfl
  case h2 => simp only [block_plus', block_alloc', block_at]; rfl
  rintro e w2 ⟨rfl, hb⟩
  have HB2 : Hid (Below w.heap.size w w2) := by
    have hz := HB1.out.size
    refine hid (Below.trans ?_ (hb.mono ?_))
    · (repeat' (first | exact HB1.out | (refine Below.alloc ?_ ?_ _) | (refine below_plus ?_ ?_ _ _) | (refine Below.drew ?_) | (simp; done) | omega | (simp; omega)))
    · first | (simp; done) | (simp; omega)
  clear hb
  rw [rt2]
  go_wp2_with fail
  go_ret
  exact ⟨rfl, HB2.out⟩
set_option maxRecDepth 100000 in
set_option maxHeartbeats 8000000 in
theorem names_any (w : World) : Calls Try.prog 3 #[] w fun e w' => e = .returned (.bool true) ∧ Below w.heap.size w w' := by
  go_enter Try.func3, Try.ntmps3
  go_wp2_with (first | (go_at_call 5; ((with_reducible refine (l_any _ _ _ _).mono ?_); rintro e w' ⟨rfl, rfl⟩)) | (go_at_call 6; ((with_reducible refine (b_any 4611686018427387904 _ _ neg_two).mono ?_); rintro e wq ⟨rfl, hb⟩); obtain ⟨os, dd, rfl⟩ := plus_of_below hb; clear hb))
  refine (zeros_call [(13830554455654793216, 0), (0, 0), (0, 0), (4607182418800017408, 0)] 4 b2 8 3 0 w.heap.size _ rfl (by kernel_rfl) ev_n ?g0).mono ?_
  case g0 => simp only [block_plus', block_alloc', block_at]; rfl
  rintro e w0 ⟨rfl, hb⟩
  have HB0 : Hid (Below w.heap.size w w0) := by
    refine hid (Below.trans ?_ (hb.mono ?_))
    · (repeat' (first | exact Below.refl _ _ | (refine Below.alloc ?_ ?_ _) | (refine below_plus ?_ ?_ _ _) | (refine Below.drew ?_) | (simp; done) | omega | (simp; omega)))
    · first | (simp; done) | (simp; omega)
  clear hb
  go_wp2_with (first | (go_at_call 5; ((with_reducible refine (l_any _ _ _ _).mono ?_); rintro e w' ⟨rfl, rfl⟩)) | (go_at_call 6; ((with_reducible refine (b_any 4611686018427387904 _ _ neg_two).mono ?_); rintro e wq ⟨rfl, hb⟩); obtain ⟨os, dd, rfl⟩ := plus_of_below hb; clear hb))
  refine (zeros_call [(4617315517961601024, 0)] 1 b2 0 0 0 w0.heap.size _ rfl (by kernel_rfl) ev_const ?g1).mono ?_
  case g1 => simp only [block_plus', block_alloc', block_at]; rfl
  rintro e w1 ⟨rfl, hb⟩
  have HB1 : Hid (Below w.heap.size w w1) := by
    have hz := HB0.out.size
    refine hid (Below.trans ?_ (hb.mono ?_))
    · (repeat' (first | exact HB0.out | (refine Below.alloc ?_ ?_ _) | (refine below_plus ?_ ?_ _ _) | (refine Below.drew ?_) | (simp; done) | omega | (simp; omega)))
    · first | (simp; done) | (simp; omega)
  clear hb
  go_wp2_with (first | (go_at_call 5; ((with_reducible refine (l_any _ _ _ _).mono ?_); rintro e w' ⟨rfl, rfl⟩)) | (go_at_call 6; ((with_reducible refine (b_any 4611686018427387904 _ _ neg_two).mono ?_); rintro e wq ⟨rfl, hb⟩); obtain ⟨os, dd, rfl⟩ := plus_of_below hb; clear hb))
  refine (zeros_call [(0, 0), (0, 0), (4607182418800017408, 0)] 3 b2 8 2 0 w1.heap.size _ rfl (by kernel_rfl) ev_k ?g2).mono ?_
  case g2 => simp only [block_plus', block_alloc', block_at]; rfl
  rintro e w2 ⟨rfl, hb⟩
  have HB2 : Hid (Below w.heap.size w w2) := by
    have hz := HB1.out.size
    refine hid (Below.trans ?_ (hb.mono ?_))
    · (repeat' (first | exact HB1.out | (refine Below.alloc ?_ ?_ _) | (refine below_plus ?_ ?_ _ _) | (refine Below.drew ?_) | (simp; done) | omega | (simp; omega)))
    · first | (simp; done) | (simp; omega)
  clear hb
  go_wp2_with (first | (go_at_call 5; ((with_reducible refine (l_any _ _ _ _).mono ?_); rintro e w' ⟨rfl, rfl⟩)) | (go_at_call 6; ((with_reducible refine (b_any 4611686018427387904 _ _ neg_two).mono ?_); rintro e wq ⟨rfl, hb⟩); obtain ⟨os, dd, rfl⟩ := plus_of_below hb; clear hb))
  refine (zeros_call [(13835058055282163712, 0), (4607182418800017408, 0)] 2 b2 24 0 130 w2.heap.size _ rfl (by kernel_rfl) ev_h ?g3).mono ?_
  case g3 => simp only [block_plus', block_alloc', block_at]; rfl
  rintro e w3 ⟨rfl, hb⟩
  have HB3 : Hid (Below w.heap.size w w3) := by
    have hz := HB2.out.size
    refine hid (Below.trans ?_ (hb.mono ?_))
    · (repeat' (first | exact HB2.out | (refine Below.alloc ?_ ?_ _) | (refine below_plus ?_ ?_ _ _) | (refine Below.drew ?_) | (simp; done) | omega | (simp; omega)))
    · first | (simp; done) | (simp; omega)
  clear hb
  go_wp2_with (first | (go_at_call 5; ((with_reducible refine (l_any _ _ _ _).mono ?_); rintro e w' ⟨rfl, rfl⟩)) | (go_at_call 6; ((with_reducible refine (b_any 4611686018427387904 _ _ neg_two).mono ?_); rintro e wq ⟨rfl, hb⟩); obtain ⟨os, dd, rfl⟩ := plus_of_below hb; clear hb))
  refine (zeros_call [(4607182418800017408, 0), (0, 0), (4607182418800017408, 0)] 3 b2 0 0 130 w3.heap.size _ rfl (by kernel_rfl) ev_i ?g4).mono ?_
  case g4 => simp only [block_plus', block_alloc', block_at]; rfl
  rintro e w4 ⟨rfl, hb⟩
  have HB4 : Hid (Below w.heap.size w w4) := by
    have hz := HB3.out.size
    refine hid (Below.trans ?_ (hb.mono ?_))
    · (repeat' (first | exact HB3.out | (refine Below.alloc ?_ ?_ _) | (refine below_plus ?_ ?_ _ _) | (refine Below.drew ?_) | (simp; done) | omega | (simp; omega)))
    · first | (simp; done) | (simp; omega)
  clear hb
  go_wp2_with (first | (go_at_call 5; ((with_reducible refine (l_any _ _ _ _).mono ?_); rintro e w' ⟨rfl, rfl⟩)) | (go_at_call 6; ((with_reducible refine (b_any 4611686018427387904 _ _ neg_two).mono ?_); rintro e wq ⟨rfl, hb⟩); obtain ⟨os, dd, rfl⟩ := plus_of_below hb; clear hb))
  refine (zeros_call [(0, 0)] 1 b2 8 0 80 w4.heap.size _ rfl (by kernel_rfl) ev_j ?g5).mono ?_
  case g5 => simp only [block_plus', block_alloc', block_at]; rfl
  rintro e w5 ⟨rfl, hb⟩
  have HB5 : Hid (Below w.heap.size w w5) := by
    have hz := HB4.out.size
    refine hid (Below.trans ?_ (hb.mono ?_))
    · (repeat' (first | exact HB4.out | (refine Below.alloc ?_ ?_ _) | (refine below_plus ?_ ?_ _ _) | (refine Below.drew ?_) | (simp; done) | omega | (simp; omega)))
    · first | (simp; done) | (simp; omega)
  clear hb
  go_wp2_with (first | (go_at_call 5; ((with_reducible refine (l_any _ _ _ _).mono ?_); rintro e w' ⟨rfl, rfl⟩)))
  refine (zeros_call [(4607182418800017408, 0)] 1 ((0, 0), (4607182418800017408, 0)) 8 0 110 w5.heap.size _ rfl (by kernel_rfl) ev_o ?g6).mono ?_
  case g6 => simp only [block_plus', block_alloc', block_at]; rfl
  rintro e w6 ⟨rfl, hb⟩
  have HB6 : Hid (Below w.heap.size w w6) := by
    have hz := HB5.out.size
    refine hid (Below.trans ?_ (hb.mono ?_))
    · (repeat' (first | exact HB5.out | (refine Below.alloc ?_ ?_ _) | (refine below_plus ?_ ?_ _ _) | (refine Below.drew ?_) | (simp; done) | omega | (simp; omega)))
    · first | (simp; done) | (simp; omega)
  clear hb
  go_wp2_with (first | (go_at_call 5; ((with_reducible refine (l_any _ _ _ _).mono ?_); rintro e w' ⟨rfl, rfl⟩)) | (go_at_call 6; ((with_reducible refine (b_any 4611686018427387904 _ _ neg_two).mono ?_); rintro e wq ⟨rfl, hb⟩); obtain ⟨os, dd, rfl⟩ := plus_of_below hb; clear hb))
  refine (zeros_call [(4607182418800017408, 0)] 1 b2 25 0 2 w6.heap.size _ rfl (by kernel_rfl) ev_p ?g7).mono ?_
  case g7 => simp only [block_plus', block_alloc', block_at]; rfl
  rintro e w7 ⟨rfl, hb⟩
  have HB7 : Hid (Below w.heap.size w w7) := by
    have hz := HB6.out.size
    refine hid (Below.trans ?_ (hb.mono ?_))
    · (repeat' (first | exact HB6.out | (refine Below.alloc ?_ ?_ _) | (refine below_plus ?_ ?_ _ _) | (refine Below.drew ?_) | (simp; done) | omega | (simp; omega)))
    · first | (simp; done) | (simp; omega)
  clear hb
  go_wp2_with (first | (go_at_call 5; ((with_reducible refine (l_any _ _ _ _).mono ?_); rintro e w' ⟨rfl, rfl⟩)) | (go_at_call 6; ((with_reducible refine (b_any 4611686018427387904 _ _ neg_two).mono ?_); rintro e wq ⟨rfl, hb⟩); obtain ⟨os, dd, rfl⟩ := plus_of_below hb; clear hb))
  refine (both_call [(4607182418800017408, 0), (0, 0), (4607182418800017408, 0)] [(0, 0), (4607182418800017408, 0)] 3 2 b2 8 2 1 w7.heap.size (w7.heap.size + 1) _ rfl rfl (by kernel_rfl) (by kernel_rfl) (by kernel_rfl) (by kernel_rfl) ev_a1 ev_q (by decide) (by decide) ?g8 ?h8).mono ?_
  case g8 => simp only [block_plus', block_alloc', block_at]; rfl
  case h8 => simp only [block_plus', block_alloc', block_at]; rfl
  rintro e w8 ⟨rfl, hb⟩
  have HB8 : Hid (Below w.heap.size w w8) := by
    have hz := HB7.out.size
    refine hid (Below.trans ?_ (hb.mono ?_))
    · (repeat' (first | exact HB7.out | (refine Below.alloc ?_ ?_ _) | (refine below_plus ?_ ?_ _ _) | (refine Below.drew ?_) | (simp; done) | omega | (simp; omega)))
    · first | (simp; done) | (simp; omega)
  clear hb
  go_wp2_with (first | (go_at_call 5; ((with_reducible refine (l_any _ _ _ _).mono ?_); rintro e w' ⟨rfl, rfl⟩)) | (go_at_call 6; ((with_reducible refine (b_any 4611686018427387904 _ _ neg_two).mono ?_); rintro e wq ⟨rfl, hb⟩); obtain ⟨os, dd, rfl⟩ := plus_of_below hb; clear hb))
  refine (both_call [(4607182418800017408, 0)] [(4607182418800017408, 0), (0, 0), (4607182418800017408, 0)] 1 3 b2 8 0 2 w8.heap.size (w8.heap.size + 1) _ rfl rfl (by kernel_rfl) (by kernel_rfl) (by kernel_rfl) (by kernel_rfl) ev_s ev_a1 (by decide) (by decide) ?g9 ?h9).mono ?_
  case g9 => simp only [block_plus', block_alloc', block_at]; rfl
  case h9 => simp only [block_plus', block_alloc', block_at]; rfl
  rintro e w9 ⟨rfl, hb⟩
  have HB9 : Hid (Below w.heap.size w w9) := by
    have hz := HB8.out.size
    refine hid (Below.trans ?_ (hb.mono ?_))
    · (repeat' (first | exact HB8.out | (refine Below.alloc ?_ ?_ _) | (refine below_plus ?_ ?_ _ _) | (refine Below.drew ?_) | (simp; done) | omega | (simp; omega)))
    · first | (simp; done) | (simp; omega)
  clear hb
  go_wp2_with (first | (go_at_call 5; ((with_reducible refine (l_any _ _ _ _).mono ?_); rintro e w' ⟨rfl, rfl⟩)))
  refine (round_call [(0, 0), (4607182418800017408, 0)] pcw 2 4 8 w9.heap.size (w9.heap.size + 1) _ 4 [1, 0, 3, 2] rfl rfl (by kernel_rfl) (by kernel_rfl) (by decide) (by decide) pcw_in (by decide) ev_r2 ?g10 ?h10).mono ?_
  case g10 => simp only [block_plus', block_alloc', block_at]; rfl
  case h10 => simp only [block_plus', block_alloc', block_at]; rfl
  rintro e w10 ⟨rfl, hb⟩
  have HB10 : Hid (Below w.heap.size w w10) := by
    have hz := HB9.out.size
    refine hid (Below.trans ?_ (hb.mono ?_))
    · (repeat' (first | exact HB9.out | (refine Below.alloc ?_ ?_ _) | (refine below_plus ?_ ?_ _ _) | (refine Below.drew ?_) | (simp; done) | omega | (simp; omega)))
    · first | (simp; done) | (simp; omega)
  clear hb
  rw [rt3]
  go_wp2_with (first | (go_at_call 5; ((with_reducible refine (l_any _ _ _ _).mono ?_); rintro e w' ⟨rfl, rfl⟩)))
  refine (short_call [(0, 0), (4607182418800017408, 0)] [(4607182418800017408, 0), (4611686018427387904, 0)] 2 2 8 w10.heap.size (w10.heap.size + 1) _ rfl rfl (by kernel_rfl) (by kernel_rfl) (by decide) (by decide) ?g11).mono ?_
  case g11 => simp only [block_plus', block_alloc', block_at]; rfl
  rintro e w11 ⟨rfl, hb⟩
  have HB11 : Hid (Below w.heap.size w w11) := by
    have hz := HB10.out.size
    refine hid (Below.trans ?_ (hb.mono ?_))
    · (repeat' (first | exact HB10.out | (refine Below.alloc ?_ ?_ _) | (refine below_plus ?_ ?_ _ _) | (refine Below.drew ?_) | (simp; done) | omega | (simp; omega)))
    · first | (simp; done) | (simp; omega)
  clear hb
  go_wp2_with (first | (go_at_call 5; ((with_reducible refine (l_any _ _ _ _).mono ?_); rintro e w' ⟨rfl, rfl⟩)) | (go_at_call 6; ((with_reducible refine (b_any 4611686018427387904 _ _ neg_two).mono ?_); rintro e wq ⟨rfl, hb⟩); obtain ⟨os, dd, rfl⟩ := plus_of_below hb; clear hb))
  refine (find_call l3 3 b2 20 w11.heap.size _ 16 183 _ 6 fd1 fd2 rfl (by kernel_rfl) (by kernel_rfl) (by kernel_rfl) (by decide) ev_border (by decide) ev_apart (by rw [ord12]; decide) (by kernel_rfl) (by kernel_rfl) (by kernel_rfl) (by kernel_rfl) ?g12).mono ?_
  case g12 => simp only [block_plus', block_alloc', block_at]; rfl
  rintro e w12 ⟨⟨vb, cb, gn, cn, rfl, y0, y1, hgn⟩, hb⟩
  have HB12 : Hid (Below w.heap.size w w12) := by
    have hz := HB11.out.size
    refine hid (Below.trans ?_ (hb.mono ?_))
    · (repeat' (first | exact HB11.out | (refine Below.alloc ?_ ?_ _) | (refine below_plus ?_ ?_ _ _) | (refine Below.drew ?_) | (simp; done) | omega | (simp; omega)))
    · first | (simp; done) | (simp; omega)
  clear hb
  haveI : Has w12 gn := ⟨hgn⟩
  go_wp2_with fail
  refine (alive_any _).mono ?_
  rintro e wq ⟨rfl, hb⟩
  have z0 := (hb.cell (p := ⟨gn, 0, none⟩) hgn).trans y0
  have z1 := (hb.cell (p := ⟨gn, 1, none⟩) hgn).trans y1
  have HBF := hid (HB12.out.trans (hb.mono HB12.out.size))
  clear hb y0 y1
  go_wp2_with fail
  go_ret
  exact ⟨rfl, HBF.out⟩
end Go.Proofs.Ytbocjicihamahaa
