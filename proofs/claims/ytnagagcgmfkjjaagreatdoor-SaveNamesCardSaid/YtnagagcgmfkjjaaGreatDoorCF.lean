/- The closed sentence. -/
import Derived.Test.YtnagagcgmfkjjaaGreatDoorCC
import Derived.Test.YtnagagcgmfkjjaaGreatDoorBN
import Derived.Laws.BytesString
set_option linter.unusedSimpArgs false
set_option linter.unusedVariables false
namespace Go.Proofs.YtnagagcgmfkjjaaGreatDoor
open Go.RowKit

theorem info_u8 : (Tryz.prog.info? 5).map (fun i => (i.zero, i.size, i.bytes)) = some (some (.int .u8 0), 1, 1) := by kernel_rfl
theorem push_rep (n : Nat) : ∀ (r : ByteArray), (List.replicate n (0 : Int)).foldl (fun r k => r.push (UInt8.ofNat k.toNat)) r = ⟨r.data ++ (List.replicate n (0 : UInt8)).toArray⟩ := by
  induction n with
  | zero => intro r; simp
  | succ n ih =>
    intro r
    rw [List.replicate_succ, List.foldl_cons, ih, List.replicate_succ]
    show (⟨r.data.push 0 ++ _⟩ : ByteArray) = _
    congr 1
    rw [← Array.toList_inj]
    simp
/-- Bytes that are all nought, as a text. -/
theorem bytes_str (w : World) (g n cap : Nat) (h : ∀ j, j < n → w.cell? ⟨g, j, none⟩ = some (.int .u8 0)) :
    (convert 68 9 (.slice (some ⟨g, 0, none⟩) n cap)).run Tryz.prog w = .ok (.string ⟨(List.replicate n (0 : UInt8)).toArray⟩) w := by
  rw [run_convert_bytes_string w 68 9 5 _ n cap Tryz.underlying68 Tryz.underlying5 Tryz.underlying9]
  have hl := run_loadCells_list (P := Tryz.prog) (w := w) ⟨g, 0, none⟩ ((List.replicate n (0 : Int)).map (Value.int .u8)) (fun j v hv => by
    have hj : j < n := by
      rcases Nat.lt_or_ge j n with h | h
      · exact h
      · rw [List.getElem?_eq_none (by simpa using h)] at hv; cases hv
    have hadd : (⟨g, 0, none⟩ : Addr).add j = ⟨g, j, none⟩ := by unfold Addr.add; split <;> simp_all
    rw [hadd, h j hj]
    rw [List.getElem?_map, List.getElem?_replicate, if_pos hj] at hv
    exact hv)
  rw [List.length_map, List.length_replicate] at hl
  rw [run_bytesToString w ⟨g, 0, none⟩ n cap (List.replicate n (0 : Int)) hl, push_rep]
  simp
theorem grown_below {w w' : World} (h : w.grownBy w' none) : Below w.heap.size w w' := Keeps.below ⟨h.os, h.tape, h.output, h.size, fun k hk _ => h.block k hk (by simp)⟩
theorem Hs.noF {w0 w : World} {R : List Rw} {F : List Fx} (H : Hs w0 R F w) : Hs w0 R [] w := ⟨H.rows, H.lims, by simp, by simp, H.kp⟩
theorem str_len {x : ByteArray} {l : By} (h : x = ⟨l.toArray⟩) : x.size = l.length := by rw [h]; simp [ByteArray.size]
theorem fit0 : fits 0 := by unfold fits; omega
theorem fit1 : fits 4607182418800017408 := by unfold fits; omega
theorem made_tr (n : Nat) : (madeCells (Value.agg #[.complex .f64 0 0, .float .f64 0, .int .u8 0]).cells (n * 3)).toList = (List.replicate n zTr).flatMap trCells := made_rep trCells zTr n (fun _ => rfl) (by decide)
theorem made_wh (n : Nat) : (madeCells (Value.agg #[.complex .f64 0 0, .float .f64 0]).cells (n * 2)).toList = (List.replicate n zWh).flatMap whCells := made_rep whCells zWh n (fun _ => rfl) (by decide)
/-- A save of tracers that are made. -/
theorem tracers_made (n : Nat) (hn : n ≤ 70000) (B : Nat) (sv : Value) (w : World) (V : Vars w) (h8 : 8 ≤ w.heap.size) (ho : w.ownsRow B 58 3 sv n (madeCells (Value.agg #[.complex .f64 0 0, .float .f64 0, .int .u8 0]).cells (n * 3)).toList) :
    Calls Tryz.prog 20 #[sv] w fun e w' => e = .returned (.tuple #[.string ⟨(tracersO (List.replicate n zTr)).1.toArray⟩, .int .i64 (tracersO (List.replicate n zTr)).2]) ∧ Below w.heap.size w w' := by
  rw [made_tr] at ho
  refine tracers_w (List.replicate n zTr) (fun x hx => ?_) (by rw [List.length_replicate]; exact hn) B sv w V h8 (by rw [List.length_replicate]; exact ho)
  rw [List.eq_of_mem_replicate hx]
  exact ⟨fit0, fit0, fit0, by decide⟩
theorem whirls_made (n : Nat) (hn : n ≤ 70000) (B : Nat) (sv : Value) (w : World) (V : Vars w) (h8 : 8 ≤ w.heap.size) (ho : w.ownsRow B 60 2 sv n (madeCells (Value.agg #[.complex .f64 0 0, .float .f64 0]).cells (n * 2)).toList) :
    Calls Tryz.prog 21 #[sv] w fun e w' => e = .returned (.tuple #[.string ⟨(whirlsO (List.replicate n zWh)).1.toArray⟩, .int .i64 (whirlsO (List.replicate n zWh)).2]) ∧ Below w.heap.size w w' := by
  rw [made_wh] at ho
  refine whirls_w (List.replicate n zWh) (fun x hx => ?_) (by rw [List.length_replicate]; exact hn) B sv w V h8 (by rw [List.length_replicate]; exact ho)
  rw [List.eq_of_mem_replicate hx]
  exact ⟨fit0, fit0, fit0⟩
theorem flow_streams (B : Nat) (sv : Value) (w : World) (V : Vars w) (h8 : 8 ≤ w.heap.size) (ho : w.ownsRow B 56 4 sv 256 ((List.replicate 256 oneStream).flatMap elCells)) :
    Calls Tryz.prog 22 #[.agg #[sv]] w fun e w' => e = .returned (.tuple #[.string ⟨(flowW (List.replicate 256 oneStream)).toArray⟩, .int .i64 0]) ∧ Below w.heap.size w w' := by
  have h := flow_w (List.replicate 256 oneStream) (fun x hx => by
    rw [List.eq_of_mem_replicate hx]
    exact ⟨by decide, fit0, fit0, fit1, fit0, fit0⟩) (by rw [List.length_replicate]; decide) B sv w V h8 (by rw [List.length_replicate]; exact ho)
  rw [flow_256] at h
  exact h
/-- What is read of a text of a known answer: tracers, a flow. -/
theorem readT_of (s : ByteArray) (hs : s.size ≤ 70000) (n : Nat) (x : Tr) (h : tracersR s.data.toList = (List.replicate n x, 0, 0)) (w : World) (V : Vars w) (h8 : 8 ≤ w.heap.size) :
    Calls Tryz.prog 8 #[.string s] w fun e w' => ∃ a c, e = .returned (.tuple #[.slice a n c, .nilIface]) ∧ Below w.heap.size w w' :=
  (readT_any s hs w V h8).mono fun e w' ⟨sv, v, he, ht, ho, hb⟩ => by
    rw [h] at ht ho
    obtain ⟨a, c, hsv, -⟩ := own_form ho
    rw [he, ht.nil, hsv, List.length_replicate]
    exact ⟨a, c, rfl, hb⟩
theorem readF_of (s : ByteArray) (hs : s.size ≤ 70000) (n : Nat) (x : El) (h : flowR s.data.toList = (List.replicate n x, 0, 0)) (w : World) (V : Vars w) (h8 : 8 ≤ w.heap.size) :
    Calls Tryz.prog 7 #[.string s] w fun e w' => ∃ a c, e = .returned (.tuple #[.agg #[.slice a n c], .nilIface]) ∧ Below w.heap.size w w' :=
  (readF_any s hs w V h8).mono fun e w' ⟨sv, v, he, ht, ho, hb⟩ => by
    rw [h] at ht ho
    obtain ⟨a, c, hsv, -⟩ := own_form ho
    rw [he, ht.nil, hsv, List.length_replicate]
    exact ⟨a, c, rfl, hb⟩
theorem readF_said (s : ByteArray) (hs : s.size ≤ 70000) (c p : Int) (hc : c = 0 → p = 0) (h : (flowR s.data.toList).2 = (c, p)) (w : World) (V : Vars w) (h8 : 8 ≤ w.heap.size) :
    Calls Tryz.prog 7 #[.string s] w fun e w' => ∃ a n k v, ∃ Ft : List Fx, e = .returned (.tuple #[.agg #[.slice a n k], v]) ∧ Tells v c p Ft ∧ (∀ q ∈ Ft, w'.heap[q.1]? = some (.cells q.2.1 q.2.2 (0, 0)) ∧ q.2.2 = 41) ∧ Below w.heap.size w w' :=
  (readF_any s hs w V h8).mono fun e w' ⟨sv, v, he, ht, ho, hb⟩ => by
    rw [h] at ht
    obtain ⟨a, k, hsv, -⟩ := own_form ho
    obtain ⟨Ft, h1, h2⟩ := ht.tells hc
    rw [he, hsv]
    exact ⟨a, _, k, v, Ft, rfl, h1, h2, hb⟩
theorem readN_said (s : ByteArray) (hs : s.size ≤ 70000) (c p : Int) (hc : c = 0 → p = 0) (h : readN s.data.toList = ((0, 0), c, p)) (w : World) :
    Calls Tryz.prog 10 #[.string s] w fun e w' => ∃ v, ∃ Ft : List Fx, e = .returned (.tuple #[.complex .f64 0 0, v]) ∧ Tells v c p Ft ∧ (∀ q ∈ Ft, w'.heap[q.1]? = some (.cells q.2.1 q.2.2 (0, 0)) ∧ q.2.2 = 41) ∧ Below w.heap.size w w' :=
  (readN_any s hs w).mono fun e w' ⟨v, he, ht, hb⟩ => by
    rw [h] at ht he
    obtain ⟨Ft, h1, h2⟩ := ht.tells hc
    exact ⟨v, Ft, he, h1, h2, hb⟩
set_option maxRecDepth 100000 in
set_option maxHeartbeats 32000000 in
theorem saveNames_any (w : World) (V : Vars w) : Calls Tryz.prog 4 #[] w fun e w' => e = .returned (.bool true) ∧ Below w.heap.size w w' := by
  have h8 : 8 ≤ w.heap.size := by have := World.block_lt_of_cell? _ _ V.dbj; simp at this; omega
  have V' := hid V
  have hal := alive_any w V
  have HAL := hid hal
  clear V hal
  obtain ⟨ti58, hi58, hz58, hs58, hb58⟩ := info_parts Tryz.info58
  obtain ⟨ti60, hi60, hz60, hs60, hb60⟩ := info_parts Tryz.info60
  obtain ⟨ti5, hi5, hz5, hs5, hb5⟩ := info_parts info_u8
  obtain ⟨sT, hsT⟩ : ∃ x : ByteArray, x = ⟨(tracersW (List.replicate 1000 zTr)).toArray⟩ := ⟨_, rfl⟩
  obtain ⟨sF, hsF⟩ : ∃ x : ByteArray, x = ⟨(flowW (List.replicate 256 oneStream)).toArray⟩ := ⟨_, rfl⟩
  obtain ⟨sL, hsL⟩ : ∃ x : ByteArray, x = ⟨(List.replicate 65537 (0 : UInt8)).toArray⟩ := ⟨_, rfl⟩
  obtain ⟨sM, hsM⟩ : ∃ x : ByteArray, x = ⟨(List.replicate 65536 (0 : UInt8)).toArray⟩ := ⟨_, rfl⟩
  have zT : sT.size ≤ 70000 := by rw [str_len hsT, tracers_len, dec_1000]; decide
  have zF : sF.size ≤ 70000 := by rw [str_len hsF, flow_len, dec_256]; decide
  have zL : sL.size ≤ 70000 := by rw [str_len hsL, List.length_replicate]; decide
  have zM : sM.size ≤ 70000 := by rw [str_len hsM, List.length_replicate]; decide
  have rT := readT_of sT zT 1000 zTr (by rw [str_eq hsT]; exact tracers_back)
  have rF := readF_of sF zF 256 oneStream (by rw [str_eq hsF]; exact flow_back)
  have rL := readF_said sL zL 3 0 (by decide) (by rw [str_eq hsL, flowR_long _ (by rw [List.length_replicate]; decide)])
  have rM := readF_said sM zM 290 0 (by decide) (by rw [str_eq hsM]; exact flowR_noughts 65536 (by decide) (Nat.le_refl _))
  have rN := readN_said sL zL 3 0 (by decide) (by rw [str_eq hsL]; exact readN_long _ (by rw [List.length_replicate]; decide))
  have RT := hid rT
  have RF := hid rF
  have RL := hid rL
  have RM := hid rM
  have RN := hid rN
  have ET := hid hsT
  have EF := hid hsF
  have EL := hid hsL
  have EM := hid hsM
  clear zT zF zL zM rT rF rL rM rN hsT hsF hsL hsM
  go_enter Tryz.func4, Tryz.ntmps4
  go_wp2_with fail
  refine HAL.out.mono ?_
  rintro e w1 ⟨rfl, hb⟩
  have H1 : Hid (Hs w [] [] w1) := hid ⟨by simp, by simp, by simp, by simp, Keeps.of_below hb⟩
  clear hb
  go_wp2_with (at_make; refine wpList_make_full _ rfl _ _ 30 rfl w1.heap.size 58 ti58 _ 3 Tryz.underlying30 hi58 hz58 hs58 .i64 .i64 _ _ 4097 rfl rfl rfl rfl (by rw [hb58]; omega) (by unfold maxLen; omega) (Nat.le_refl _) ?_; intro w2 hown hgrow)
  have H2 := hid (H1.out.quiet (grown_below hgrow))
  refine (tracers_made 4097 (by decide) _ _ _ (H2.out.vars V'.out h8) (H2.out.h8 h8) hown).mono ?_
  rintro e w3 ⟨rfl, hb⟩
  rw [tracers_many]
  generalize (⟨(tracersO (List.replicate 4097 zTr)).1.toArray⟩ : ByteArray) = x1
  have H3 := hid (H2.out.quiet hb)
  clear hb hown hgrow H1 H2
  go_wp2_with (at_make; refine wpList_make_full _ rfl _ _ 30 rfl w3.heap.size 58 ti58 _ 3 Tryz.underlying30 hi58 hz58 hs58 .i64 .i64 _ _ 4096 rfl rfl rfl rfl (by rw [hb58]; omega) (by unfold maxLen; omega) (Nat.le_refl _) ?_; intro w4 hown hgrow)
  have H4 := hid (H3.out.quiet (grown_below hgrow))
  refine (tracers_made 4096 (by decide) _ _ _ (H4.out.vars V'.out h8) (H4.out.h8 h8) hown).mono ?_
  rintro e w5 ⟨rfl, hb⟩
  rw [tracers_long]
  generalize (⟨(tracersO (List.replicate 4096 zTr)).1.toArray⟩ : ByteArray) = x2
  have H5 := hid (H4.out.quiet hb)
  clear hb hown hgrow H3 H4
  go_wp2_with (at_make; refine wpList_make_full _ rfl _ _ 30 rfl w5.heap.size 58 ti58 _ 3 Tryz.underlying30 hi58 hz58 hs58 .i64 .i64 _ _ 1000 rfl rfl rfl rfl (by rw [hb58]; omega) (by unfold maxLen; omega) (Nat.le_refl _) ?_; intro w6 hown hgrow)
  have H6 := hid (H5.out.quiet (grown_below hgrow))
  refine (tracers_made 1000 (by decide) _ _ _ (H6.out.vars V'.out h8) (H6.out.h8 h8) hown).mono ?_
  rintro e w7 ⟨rfl, hb⟩
  rw [tracers_1000]
  simp only []
  rw [← ET.out]
  have H7 := hid (H6.out.quiet hb)
  clear hb hown hgrow H5 H6
  go_wp2_with fail
  refine (RT.out _ (H7.out.vars V'.out h8) (H7.out.h8 h8)).mono ?_
  rintro e w8 ⟨aT, kT, rfl, hb⟩
  have H8 := hid (H7.out.quiet hb)
  clear hb H7
  go_wp2_with (at_make; refine wpList_make_full _ rfl _ _ 33 rfl w8.heap.size 60 ti60 _ 2 Tryz.underlying33 hi60 hz60 hs60 .i64 .i64 _ _ 4097 rfl rfl rfl rfl (by rw [hb60]; omega) (by unfold maxLen; omega) (Nat.le_refl _) ?_; intro w9 hown hgrow)
  have H9 := hid (H8.out.quiet (grown_below hgrow))
  refine (whirls_made 4097 (by decide) _ _ _ (H9.out.vars V'.out h8) (H9.out.h8 h8) hown).mono ?_
  rintro e w10 ⟨rfl, hb⟩
  rw [whirls_many]
  generalize (⟨(whirlsO (List.replicate 4097 zWh)).1.toArray⟩ : ByteArray) = x3
  have H10 := hid (H9.out.quiet hb)
  clear hb hown hgrow H8 H9
  go_wp2_with fail
  refine (streams_any _).mono ?_
  rintro e w11 ⟨sv, rfl, ho, hb⟩
  obtain ⟨aS, kS, rfl, -⟩ := own_form ho
  have H11 := hid (H10.out.quiet hb)
  have OS := hid ho
  clear hb H10 ho
  go_wp2_with fail
  refine (flow_streams _ _ _ (H11.out.vars V'.out h8) (H11.out.h8 h8) OS.out).mono ?_
  rintro e w12 ⟨rfl, hb⟩
  rw [← EF.out]
  have H12 := hid (H11.out.quiet hb)
  clear hb H11 OS
  go_wp2_with fail
  refine (RF.out _ (H12.out.vars V'.out h8) (H12.out.h8 h8)).mono ?_
  rintro e w13 ⟨aF, kF, rfl, hb⟩
  have H13 := hid ((H12.out.quiet hb).allocF #[.slice aF 256 kF] 25 (Or.inl rfl))
  have z13 := hb.size
  clear hb H12
  go_upto_region 11 with fail
  generalize w13.alloc (.cells #[.slice aF 256 kF] 25) = v13 at H13 ⊢
  go_wp2_with (at_make; refine wpList_make_full _ rfl _ _ 68 rfl v13.heap.size 5 ti5 _ 1 Tryz.underlying68 hi5 hz5 hs5 .i64 .i64 _ _ 65537 rfl rfl rfl rfl (by rw [hb5]; omega) (by unfold maxLen; omega) (Nat.le_refl _) ?_; intro w14 hown hgrow)
  have hown2 := hown
  rw [show (Value.int .u8 0).cells = #[Value.int .u8 0] from rfl, show 65537 * 1 = 65537 from rfl, toList_madeCells_one] at hown2
  have H14 := hid ((H13.out.quiet (grown_below hgrow)).row v13.heap.size 5 1 (.slice (some ⟨v13.heap.size, 0, none⟩) 65537 65537) 65537 (List.replicate 65537 (.int .u8 0)) hown2)
  clear hown hown2 hgrow H13
  have hcv := fun (W : World) (HW : Hs w [⟨v13.heap.size, w14.heap.size, 5, 1, .slice (some ⟨v13.heap.size, 0, none⟩) 65537 65537, 65537, List.replicate 65537 (.int .u8 0)⟩] ([] : List Fx) W) (n : Nat) (hn : n ≤ 65537) => bytes_str W v13.heap.size n 65537 (fun j hj => by
    obtain ⟨a', c', he, hc⟩ := own_form (HW.rows _ List.mem_cons_self)
    simp only [Value.slice.injEq, true_and] at he
    obtain ⟨rfl, -⟩ := he
    obtain ⟨g, hg, hcc⟩ := hc (by show 0 < 65537; decide)
    simp only [Option.some.injEq, Addr.mk.injEq] at hg
    obtain ⟨rfl, -, -⟩ := hg
    have h1 := hcc j (by show j < (List.replicate 65537 (Value.int .u8 0)).length; rw [List.length_replicate]; omega)
    rw [h1]
    show (List.replicate 65537 (Value.int .u8 0))[j]? = _
    rw [List.getElem?_replicate, if_pos (by omega)])
  have HCV := hid hcv
  clear hcv
  have cv := HCV.out w14 H14.out.noF 65537 (Nat.le_refl _)
  rw [← EL.out] at cv
  go_wp2_with fail
  rw [cv]
  go_wp2_with fail
  refine (RL.out _ (H14.out.vars V'.out h8) (H14.out.h8 h8)).mono ?_
  rintro e w15 ⟨a8, n8, k8, v8, F8, rfl, t8, f8, hb⟩
  have H15 := hid (((H14.out.quiet hb).fxs f8).quiet (w' := w15.alloc (.cells #[.slice a8 n8 k8] 25)) (Below.alloc (Below.refl _ _) (Nat.le_refl _) _))
  have T8 := hid t8
  clear hb f8 t8 H14 cv
  go_upto_region 13 with fail
  generalize w15.alloc (.cells #[.slice a8 n8 k8] 25) = v15 at H15 ⊢
  have cv := HCV.out v15 H15.out.noF 65536 (by decide)
  rw [← EM.out] at cv
  go_wp2_with fail
  refine (RM.out _ (H15.out.vars V'.out h8) (H15.out.h8 h8)).mono ?_
  rintro e w16 ⟨a9, n9, k9, v9, F9, rfl, t9, f9, hb⟩
  have H16 := hid (((H15.out.quiet hb).fxs f9).quiet (w' := w16.alloc (.cells #[.slice a9 n9 k9] 25)) (Below.alloc (Below.refl _ _) (Nat.le_refl _) _))
  have T9 := hid t9
  clear hb f9 t9 H15 cv
  go_upto_region 14 with fail
  generalize w16.alloc (.cells #[.slice a9 n9 k9] 25) = v16 at H16 ⊢
  have cv := HCV.out v16 H16.out.noF 65537 (Nat.le_refl _)
  rw [← EL.out] at cv
  go_wp2_with fail
  refine (RN.out _).mono ?_
  rintro e w17 ⟨v10, F10, rfl, t10, f10, hb⟩
  have H17 := hid ((H16.out.quiet hb).fxs f10)
  have T10 := hid t10
  clear hb f10 t10 H16 cv
  go_wp2_with fail
  refine (says_self v8 3 0 _ (H17.out.vars V'.out h8) (H17.out.h8 h8) (T8.out.says (fun q hq => H17.out.fix q (List.mem_append_right _ (List.mem_append_right _ (List.mem_append_left _ hq)))))).mono ?_
  rintro e w18 ⟨rfl, hb⟩
  have H18 := hid (H17.out.quiet hb)
  clear hb H17
  go_wp2_with fail
  refine (says_self v9 290 0 _ (H18.out.vars V'.out h8) (H18.out.h8 h8) (T9.out.says (fun q hq => H18.out.fix q (List.mem_append_right _ (List.mem_append_left _ hq))))).mono ?_
  rintro e w19 ⟨rfl, hb⟩
  have H19 := hid (H18.out.quiet hb)
  clear hb H18
  go_wp2_with fail
  refine (says_self v10 3 0 _ (H19.out.vars V'.out h8) (H19.out.h8 h8) (T10.out.says (fun q hq => H19.out.fix q (List.mem_append_left _ hq)))).mono ?_
  rintro e w20 ⟨rfl, hb⟩
  have H20 := hid (H19.out.quiet hb)
  clear hb H19
  go_wp2_with fail
  refine (odd_any _).mono ?_
  rintro e w21 ⟨sv, ts, rfl, hts, htz, ho, hb⟩
  obtain ⟨aO, kO, rfl, -⟩ := own_form ho
  have H21 := hid ((H20.out.quiet hb).row w20.heap.size 9 1 (.slice aO 16 kO) 16 (ts.map Value.string) ho)
  have TL := hid hts
  have TZ := hid htz
  clear hb ho hts htz H20 T8 T9 T10 RT RF RL RM RN HCV
  obtain ⟨RR, FF, hRR, hFF, H21⟩ : ∃ (RR : List Rw) (FF : List Fx), (⟨w20.heap.size, w21.heap.size, 9, 1, .slice aO 16 kO, 16, ts.map Value.string⟩ : Rw) ∈ RR ∧ (w13.heap.size, #[.slice aF 256 kF], 25) ∈ FF ∧ Hs w RR FF w21 :=
    ⟨_, _, List.mem_cons_self, List.mem_append_right _ (List.mem_append_right _ (List.mem_append_right _ List.mem_cons_self)), H21.out⟩
  have H21 := hid H21
  have HRR := hid hRR
  have HFF := hid hFF
  clear hRR hFF
  go_wp2_with fail
  go_loopw [24] (fun t wr => ∃ k : Nat, t = .int .i64 k ∧ k ≤ 16 ∧ Hid (Hs w RR FF wr)) (fun t _ => 16 - (intOf t).toNat)
  case atStart => exact ⟨0, rfl, by omega, H21⟩
  case round =>
    obtain ⟨k, rfl, hk, HW⟩ := hrel
    by_cases hkn : k < 16
    · have hk' : (k : Int) < 16 := by omega
      have hk0 : (0 : Int) ≤ (k : Int) := by omega
      have htl := TL.out
      obtain ⟨a', c', he, hc⟩ := own_form (HW.out.rows _ HRR.out)
      simp only [Value.slice.injEq, true_and] at he
      obtain ⟨rfl, rfl⟩ := he
      obtain ⟨g, rfl, hcc⟩ := hc (by show 0 < 16; decide)
      have hkt : ts[k]? = some ts[k] := List.getElem?_eq_getElem (by omega)
      have htz := TZ.out ts[k] (List.getElem_mem _)
      have hce := hcc k (by show k < (ts.map Value.string).length; rw [List.length_map]; omega)
      rw [List.getElem?_map, hkt] at hce
      obtain ⟨t, ht⟩ : ∃ t, t = ts[k] := ⟨_, rfl⟩
      rw [← ht] at hce htz
      simp only [Option.map_some] at hce
      haveI : Has wr g := ⟨World.block_lt_of_cell? _ _ hce⟩
      obtain ⟨S, hS⟩ : ∃ S, S = sumS t.data.toList := ⟨_, rfl⟩
      have hSl : S < 18446744073709551616 := by rw [hS]; exact sumS_lt _
      have hrs := fun W => (rsum_any t (by omega) W).mono fun e W' (h : e = .returned (.int .u64 (sumS t.data.toList)) ∧ W = W') => (⟨h.1, h.2.symm⟩ : e = .returned (.int .u64 (sumS t.data.toList)) ∧ W' = W)
      rw [← hS] at hrs
      have hsx := sixteen25 S hSl
      obtain ⟨six, hsix⟩ : ∃ six, six = sixB S 16 := ⟨_, rfl⟩
      have hs16 := sixB_size S 16
      rw [← hsix] at hsx hs16
      have HRS := hid hrs
      have HSX := hid hsx
      clear hkt hcc hc ht hS hSl hrs hsx hsix htl
      have q1 : t.size + 4 ≤ 9223372036854775807 := by omega
      have q2 : t.size + 4 + six.size ≤ 9223372036854775807 := by omega
      have q3 : t.size + 4 + six.size + 1 ≤ 9223372036854775807 := by omega
      go_wp2_with fail
      go_quiet ((first | (go_at_call 26; exact Calls.quiet_of_same (HRS.out _)) | (go_at_call 25; exact Calls.quiet_of_same (HSX.out _))))
      have HW2 := hid (HW.out.quiet (Below.many (Below.refl wr.heap.size wr) nq))
      go_wp2_with fail
      refine (saveReads_any _ (by unfold maxLen; rw [ByteArray.size_append, ByteArray.size_append, ByteArray.size_append, show (⟨#[115, 117, 109, 32]⟩ : ByteArray).size = 4 from rfl, show (⟨#[10]⟩ : ByteArray).size = 1 from rfl]; omega) _ (HW2.out.vars V'.out h8)).mono ?_
      rintro e w22 ⟨rfl, hb⟩
      have HW3 := hid (HW2.out.quiet hb)
      clear hb
      go_wp2_with fail
      go_roundw
      case rel => exact ⟨k + 1, by rfl, by omega, HW3⟩
      case measure => simp [intOf]; omega
    · obtain rfl : k = 16 := by omega
      have z := cell_of_block (HW.out.fix _ HFF.out) 0
      simp at z
      haveI : Has wr w13.heap.size := ⟨lt_of_block (HW.out.fix _ HFF.out)⟩
      go_wp2_with fail
      go_ret
      exact ⟨rfl, HW.out.below⟩

end Go.Proofs.YtnagagcgmfkjjaaGreatDoor
