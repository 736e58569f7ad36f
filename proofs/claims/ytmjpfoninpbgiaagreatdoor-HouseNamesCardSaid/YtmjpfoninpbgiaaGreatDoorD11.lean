/- A crowd. The examples' house, read. A house is read. Join, Conj; words that do not stand there; loads that fail. A flow's potential and speed; At. The examples are well. -/
import Derived.Test.YtmjpfoninpbgiaaGreatDoorD10
import Derived.OwnWalk
set_option linter.unusedSimpArgs false
set_option linter.unusedVariables false
namespace Go.Proofs.YtmjpfoninpbgiaaGreatDoor
section
open Go.RowKit
open Go.Maps Go.ChangeMaps
theorem mp_made (w : World) : Mp (w.alloc (.map #[] 0)) w.heap.size 0 (.map []) (fun _ => none) := ⟨World.ownsMap_made w _ _ _, fun k => rfl, fun k s h => by cases h⟩
/-- The crowd's memory. -/
structure Cr (w : World) (h m b : Nat) (cnt : List Nat) (k : Nat) (wx : World) : Prop where
  house : Bk wx h [.bool true, .int .i32 0, .int .u32 0, .map (some m)] 51
  had : Bk wx b (cnt.map fun (c : Nat) => Value.int .i64 (c : Int)) 26
  mp : ∃ D F, Mp wx m k D F ∧ Crd F cnt ∧ Maps.size D = total cnt
  len : cnt.length = 8
  le : ∀ (i c : Nat), cnt[i]? = some c → c ≤ k
  gr : Below w.heap.size w wx
theorem Cr.below {w : World} {h m b k : Nat} {cnt : List Nat} {wx wy : World} (c : Cr w h m b cnt k wx) (g : Below wx.heap.size wx wy) : Cr w h m b cnt k wy := by
  obtain ⟨D, F, h1, h2, h3⟩ := c.mp
  exact ⟨c.house.below g, c.had.below g, ⟨D, F, h1.below g, h2, h3⟩, c.len, c.le, Below.trans c.gr (below_low g c.gr.size)⟩
theorem crowd_cell {w : World} {B : Nat} {cnt : List Nat} {i c : Nat} (h : Bk w B (cnt.map fun (c : Nat) => Value.int .i64 (c : Int)) 26) (hc : cnt[i]? = some c) : w.cell? ⟨B, i, none⟩ = some (.int .i64 c) := h.cell (by rw [List.getElem?_map, hc]; rfl)
theorem cr_put {w wp : World} {h m B t i c : Nat} {cnt : List Nat} {F : List UInt8 → Option (Nat × Nat)} {D : DataW Unit} (h1 : Bk wp h [.bool true, .int .i32 0, .int .u32 0, .map (some m)] 51) (h2 : Bk wp B (cnt.map fun (c : Nat) => Value.int .i64 (c : Int)) 26)
    (h3 : Mp wp m (t + 1) D F) (h4 : Crd F (cnt.set i (c + 1))) (h5 : Maps.size D = total (cnt.set i (c + 1))) (hl : cnt.length = 8) (hle : ∀ (j x : Nat), cnt[j]? = some x → x ≤ t) (hc : cnt[i]? = some c) (hg : Below w.heap.size w wp) (hB : w.heap.size ≤ B) :
    Cr w h m B (cnt.set i (c + 1)) (t + 1) (wp.setCell ⟨B, i, none⟩ (.int .i64 ((c : Int) + 1))) := by
  obtain ⟨es, q, hm⟩ := h3.heap
  have nBm : m ≠ B := by
    rintro rfl
    rw [h2] at hm
    cases hm
  have nBh : h ≠ B := by
    rintro rfl
    have h1' : wp.heap[h]? = _ := h1
    rw [h2] at h1'
    simp only [Option.some.injEq, Obj.cells.injEq] at h1'
    exact absurd h1'.2.1 (by decide)
  have hs := h2.set i (.int .i64 ((c : Int) + 1))
  refine ⟨(block_ne _ _ _ _ _ nBh).trans h1, ?_, ⟨D, F, h3.keep (S := [B]) ((Keeps.refl _ _ _).set (Or.inl (List.mem_singleton.2 rfl)) _ _) (by simpa using nBm) (fun j hj C T hT => ?_), h4, h5⟩, by rw [List.length_set]; exact hl, fun j x hj => ?_, below_store hg hB⟩
  · rw [List.map_set]
    exact hs
  · rw [List.mem_singleton] at hj
    subst hj
    rw [h2] at hT
    simp only [Option.some.injEq, Obj.cells.injEq] at hT
    rw [← hT.2.1]
    decide
  · rw [List.getElem?_set] at hj
    split at hj
    · have := hle i c hc
      split at hj
      · simp only [Option.some.injEq] at hj
        omega
      · cases hj
    · have := hle j x hj
      omega
theorem total_put {cnt : List Nat} {i c : Nat} (hc : cnt[i]? = some c) : total (cnt.set i (c + 1)) = total cnt + (if c < 8 then 1 else 0) := by
  obtain ⟨hil, hie⟩ := List.getElem?_eq_some_iff.1 hc
  have := total_set cnt i hil
  rw [hie] at this
  exact this
theorem size_crd {w : World} {m t i c : Nat} {D : DataW Unit} {F : List UInt8 → Option (Nat × Nat)} {cnt : List Nat} {nm : List UInt8} {b : DataW Unit} (hm : Mp w m t D F) (hcd : Crd F cnt) (hsz : Maps.size D = total cnt) (hi : i < 8) (hc : cnt[i]? = some c) (hn : nm = nlL i (c % 8)) :
    Maps.size (D.put (.string nm) b) = total (cnt.set i (c + 1)) := by
  rw [total_put hc, size_put (hm.own.tidy keyed9), hm.has, hn, hcd i (c % 8) hi (Nat.mod_lt _ (by decide)), hsz]
  have hgd : cnt.getD i 0 = c := by rw [List.getD_eq_getElem?_getD, hc]; rfl
  rw [hgd]
  unfold stv
  by_cases h8 : c < 8
  · have e : ¬ c % 8 < c := by omega
    simp [e, h8]
  · have e : c % 8 < c := by omega
    simp [e, h8]
theorem keys_nodup {w : World} {m n : Nat} {D : DataW Unit} (hown : w.ownsMap Tryz.prog 9 Rp m n D) : (strKeys D).Nodup ∧ (strKeys D).length = Maps.size D := by
  obtain ⟨es, hD, hpw, _⟩ := hown.entries keyed9
  obtain ⟨es', hD', hko⟩ := hown.keysOf
  obtain rfl : es = es' := by rw [hD] at hD'; simpa using hD'
  subst hD
  refine ⟨?_, by simp [strKeys, Maps.size]⟩
  show (es.map fun p => strOf p.1).Nodup
  refine List.pairwise_map.2 (hpw.imp_of_mem fun {p q} hp' hq' hne e => hne ?_)
  obtain ⟨v, hv⟩ := hko p hp'
  obtain ⟨u, hu⟩ := hko q hq'
  obtain ⟨a, _, ha, _⟩ := Maps.keyOf_str und9z hv
  obtain ⟨b, _, hb, _⟩ := Maps.keyOf_str und9z hu
  rw [ha, hb] at e ⊢
  exact congrArg _ e
theorem keys_rise {w : World} {m n : Nat} {D : DataW Unit} (hown : w.ownsMap Tryz.prog 9 Rp m n D) {ss : List (List UInt8)} (hp : ss.Perm (strKeys D)) : ss.length = Maps.size D ∧ (ss.mergeSort (fun x y => decide (x ≤ y))).length = ss.length ∧ ∀ (i : Nat) (a b : List UInt8), (ss.mergeSort (fun x y => decide (x ≤ y)))[i]? = some a → (ss.mergeSort (fun x y => decide (x ≤ y)))[i + 1]? = some b → Op.bytesLess (⟨a.toArray⟩ : ByteArray).toList (⟨b.toArray⟩ : ByteArray).toList = true := by
  obtain ⟨h1, h2⟩ := keys_nodup hown
  have hl : (ss.mergeSort (fun x y => decide (x ≤ y))).length = ss.length := (List.mergeSort_perm ss _).length_eq
  refine ⟨hp.length_eq.trans h2, hl, fun i a b ha hb => ?_⟩
  have tr : ∀ a b c : List UInt8, leB a b = true → leB b c = true → leB a c = true := fun a b c h1 h2 => by simp only [leB, decide_eq_true_eq] at *; exact List.le_trans h1 h2
  have tot : ∀ a b : List UInt8, (leB a b || leB b a) = true := fun a b => by simp only [leB, Bool.or_eq_true, decide_eq_true_eq]; exact List.le_total a b
  have hpw : (ss.mergeSort leB).Pairwise (fun a b => leB a b = true) := List.pairwise_mergeSort tr tot ss
  have hnd : (ss.mergeSort leB).Nodup := ((List.mergeSort_perm ss leB).trans hp).nodup_iff.2 h1
  obtain ⟨hi, ha'⟩ := List.getElem?_eq_some_iff.1 ha
  obtain ⟨hj, hb'⟩ := List.getElem?_eq_some_iff.1 hb
  have q1 := List.pairwise_iff_getElem.1 hpw i (i + 1) hi hj (by omega)
  have q2 := List.pairwise_iff_getElem.1 hnd i (i + 1) hi hj (by omega)
  have e1 : (⟨a.toArray⟩ : ByteArray).toList = a := by rw [ByteArray.toList_eq]
  have e2 : (⟨b.toArray⟩ : ByteArray).toList = b := by rw [ByteArray.toList_eq]
  rw [bytesLess_eq, e1, e2, decide_eq_true_eq]
  have q1' : a ≤ b := by rw [← ha', ← hb']; simpa [leB] using q1
  have q2' : a ≠ b := by rw [← ha', ← hb']; exact q2
  exact List.not_le.1 (fun h => q2' (List.le_antisymm q1' h))
set_option synthInstance.maxHeartbeats 2000000 in
set_option synthInstance.maxSize 100000 in
set_option maxRecDepth 100000 in
set_option maxHeartbeats 16000000 in
theorem hCrowd {w : World} {a : Option Addr} {n cap : Nat} (xs : List UInt8) (hx : xs.length = n) (hc : 0 < n → ∃ g off, a = some ⟨g, off, none⟩ ∧ g < w.heap.size ∧ ∀ j (h : j < xs.length), w.cell? ⟨g, off + j, none⟩ = some (.int .u8 ((xs[j]'h).toNat)))
    (hA : ∀ W, Below w.heap.size w W → Calls Tryz.prog 5 #[] W fun e w' => e = .returned (.bool true) ∧ Kp0 W w') :
    Calls Tryz.prog 3 #[.slice a n cap] w fun e w' => e = .returned (.bool true) ∧ Kp0 w w' := by
  have A := hid hA
  have HC := hid hc
  have HX := hid hx
  clear hA hc hx
  by_cases hn : 200 < n
  · go_enter Tryz.func3, Tryz.ntmps3
    go_wp2_with (first | (go_at_call 5; (with_reducible refine Calls.mono (A.out _ (Below.refl _ _)) ?_); rintro e wc ⟨rfl, hal⟩) | (go_at_call 6; (with_reducible refine Calls.mono hNew ?_); rintro e wn ⟨rfl, rfl⟩))
    go_ret
    exact ⟨rfl, ⟨Gr.out⟩⟩
  · go_enter Tryz.func3, Tryz.ntmps3
    go_wp2_with (first | (go_at_call 5; (with_reducible refine Calls.mono (A.out _ (Below.refl _ _)) ?_); rintro e wc ⟨rfl, hal⟩) | (go_at_call 6; (with_reducible refine Calls.mono hNew ?_); rintro e wn ⟨rfl, rfl⟩))
    go_loopw [6, 7] (fun s6 s7 wx => ∃ (t : Nat) (cnt : List Nat), s7 = .int .i64 t ∧ s6 = .int .i64 (total cnt : Nat) ∧ t ≤ n ∧ Cr w (wc.heap.size + 1) wc.heap.size (wc.heap.size + 1 + 1) cnt t wx) (fun _ s7 _ => n - (intOf s7).toNat)
    case atStart =>
      refine ⟨0, List.replicate 8 0, rfl, rfl, Nat.zero_le _, (inferInstance : BkC _ (wc.heap.size + 1) _ 51).out, (inferInstance : BkC _ (wc.heap.size + 1 + 1) _ 26).out, ⟨_, _, ((mp_made wc).below ((Below.refl _ _).alloc (Nat.le_refl _) _)).below ((Below.refl _ _).alloc (Nat.le_refl _) _), ?_, rfl⟩, rfl, ?_, Gr.out⟩
      · intro a b ha hb
        have H : ∀ i : Fin 8, (List.replicate 8 0).getD i.1 0 = 0 := by decide
        rw [H ⟨a, ha⟩]
        rfl
      · intro i c hi
        have := List.mem_of_getElem? hi
        rw [List.mem_replicate] at this
        omega
    case round =>
      obtain ⟨t, cnt, rfl, rfl, ht, hcr⟩ := hrel
      by_cases hlt : t < n
      · obtain ⟨g, off, rfl, hgw, hcell⟩ := HC.out (by omega)
        have hx0 := hcell t (by rw [HX.out]; exact hlt)
        have hcx : wr.cell? ⟨g, off + t, none⟩ = some (.int .u8 (xs[t]'(by rw [HX.out]; exact hlt)).toNat) := (World.cell?_of_block (w := w) (hcr.gr.block g hgw)).trans hx0
        generalize (xs[t]'(by rw [HX.out]; exact hlt)) = x at hcx
        have hx256 : x.toNat < 256 := x.toNat_lt
        obtain ⟨v, hv⟩ : ∃ v, v = x.toNat := ⟨_, rfl⟩
        rw [← hv] at hcx hx256
        obtain ⟨i, hi⟩ : ∃ i, i = v % 8 := ⟨_, rfl⟩
        have hi8 : i < 8 := by omega
        have him : ((v : Int).tmod 8) = (i : Int) := by rw [hi, Int.tmod_eq_emod_of_nonneg (by omega)]; omega
        obtain ⟨c, hcnt⟩ : ∃ c, cnt[i]? = some c := ⟨_, List.getElem?_eq_getElem (by rw [hcr.len]; exact hi8)⟩
        have hct := hcr.le i c hcnt
        have hch : wr.cell? ⟨wc.heap.size + 1 + 1, i, none⟩ = some (.int .i64 c) := hcr.had.cell (by rw [List.getElem?_map, hcnt]; rfl)
        obtain ⟨k, hk⟩ : ∃ k, k = c % 8 := ⟨_, rfl⟩
        have hk8 : k < 8 := by omega
        have hkm : ((c : Int).tmod 8) = (k : Int) := by rw [hk, Int.tmod_eq_emod_of_nonneg (by omega)]; omega
        have hc200 : c ≤ 200 := by omega
        have HV := hid hv
        have HI := hid hi
        have HK := hid hk
        have HCT := hid hct
        have HCR := hid hcr
        have HCN := hid hcnt
        clear hx0 hcell hgw hv hi hk hct hcr hcnt
        have hwi : IntKind.i32.wrap (97 + (i : Int)) = 97 + (i : Int) := by rw [IntKind.wrap_i32]; omega
        have hwk : IntKind.i32.wrap (97 + (k : Int)) = 97 + (k : Int) := by rw [IntKind.wrap_i32]; omega
        have hsi : (Utf8.encode (97 + (i : Int))).size = 1 := by rw [enc_small i hi8]; rfl
        have hsk : (Utf8.encode (97 + (k : Int))).size = 1 := by rw [enc_small k hk8]; rfl
        obtain ⟨D, F, hmp, hcrd, hsz⟩ := HCR.out.mp
        haveI ih : BkC wr (wc.heap.size + 1) _ 51 := ⟨HCR.out.house⟩
        haveI ib : BkC wr (wc.heap.size + 1 + 1) _ 26 := ⟨HCR.out.had⟩
        haveI ig : Gr w wr := ⟨HCR.out.gr⟩
        have hlen := HCR.out.len
        have htl : total cnt ≤ 64 := by have := total_le cnt; omega
        have HMP := hid hmp
        have HCD := hid hcrd
        have HSZ := hid hsz
        have HLN := hid hlen
        have hroom : Hid ((F (nlB i k).data.toList).isSome = true ∨ Maps.size D < 64) := hid (by
          rw [nlB_list hi8 hk8, hcrd i k hi8 hk8, hsz]
          have hgd : cnt.getD i 0 = c := by rw [List.getD_eq_getElem?_getD, HCN.out]; rfl
          rw [hgd]
          unfold stv
          by_cases hkc : k < c
          · left; rw [if_pos hkc]; rfl
          · right
            obtain ⟨hil, hie⟩ := List.getElem?_eq_some_iff.1 HCN.out
            have := total_lt cnt i hil (by rw [hie]; have := HK.out; omega)
            omega)
        haveI hok : OkS (flI i, flI c) := flI_ok (by omega) hc200
        have HNM : Hid (({ data := #[120] } : ByteArray) ++ Utf8.encode (97 + (i : Int)) ++ Utf8.encode (97 + (k : Int)) = nlB i k) := hid rfl
        have HCC : Hid ((cnt.map fun (c : Nat) => Value.int .i64 (c : Int))[i]? = some (.int .i64 c)) := hid (by rw [List.getElem?_map, HCN.out]; rfl)
        have HNS : Hid ((nlB i k).size ≤ 70000) := hid (by rw [nlB_size hi8 hk8]; decide)
        have HNF := hid (nlB_fit hi8 hk8)
        have HT : Hid (t < 1000000) := hid (by omega)
        clear hmp hcrd hsz hlen
        obtain ⟨b8, hb8⟩ : ∃ b8, decide ((c : Int) < 8) = b8 := ⟨_, rfl⟩
        cases b8
        all_goals
          go_wp2_with (first | (go_at_call 7; (with_reducible refine Calls.mono lwStream ?_); rintro e ws ⟨g1, rfl, hs1, hs2, hs3⟩) | (go_at_call 8; rw [HNM.out]; have hmq := HMP.out.below (Gr.out (v := wr) (W := ws.alloc (.cells #[.slice (some ⟨g1, 0, none⟩) 1 1] 29))); go_loud (with_reducible refine Calls.mono (hPut (h := wc.heap.size + 1) (s := (flI i, flI c)) (nm := nlB i k) HNS.out HNF.out hmq HT.out hroom.out) ?_); rintro e wp ⟨rfl, b1, hp1, hp2, hp3⟩; have hcp : wp.cell? ⟨wc.heap.size + 1 + 1, i, none⟩ = some (.int .i64 c) := (inferInstance : BkC wp (wc.heap.size + 1 + 1) _ 26).out.cell HCC.out; have hfp := (inferInstance : BkC wp (wc.heap.size + 1 + 1) _ 26).out.free i))
          have HC2 := cr_put (w := w) (B := wc.heap.size + 1 + 1) hp1.out (inferInstance : BkC wp (wc.heap.size + 1 + 1) _ 26).out hp2 (by rw [nlB_list hi8 hk8, HK.out]; exact crd_put HCD.out HLN.out hi8 (by rw [List.getD_eq_getElem?_getD, HCN.out]; rfl)) (size_crd HMP.out HCD.out HSZ.out hi8 HCN.out (by rw [nlB_list hi8 hk8, HK.out])) HLN.out HCR.out.le HCN.out (Gr.out (v := w) (W := wp)) (Up.out (B := w.heap.size))
          have HB8 := hid hb8
          have hT : ((total (cnt.set i (c + 1)) : Nat) : Int) = _ := congrArg Int.ofNat (total_put HCN.out)
          obtain ⟨W, hW⟩ : ∃ W, W = wp.setCell ⟨wc.heap.size + 1 + 1, i, none⟩ (.int .i64 ((c : Int) + 1)) := ⟨_, rfl⟩
          rw [← hW] at HC2 ⊢
          have hl2 : (cnt.set i (c + 1)).length = 8 := by rw [List.length_set]; exact HLN.out
          obtain ⟨cn, hcn⟩ : ∃ cn, cn = cnt.set i (c + 1) := ⟨_, rfl⟩
          rw [← hcn] at HC2 hT hl2
          obtain ⟨T2, hT2⟩ : ∃ T2, T2 = total cn := ⟨_, rfl⟩
          rw [← hT2] at hT
          have HC2' := hid HC2
          have HT' := hid hT
          have HT2 := hid hT2
          have HL2 := hid hl2
          have hwG : Below w.heap.size w W := HC2.gr
          have HWG := hid hwG
          clear HC2 hT hT2 hl2 hwG hW hcn hmq hp1 hp2 hp3 hcp hfp ih ib ig hwi hwk hsi hsk him hkm hcx hch htl hb8
          go_loopw [12] (fun s12 wx => ∃ nn : Nat, s12 = .int .i64 nn ∧ nn ≤ 8 ∧ Kp0 W wx) (fun s12 _ => 8 - (intOf s12).toNat)
          case atStart => exact ⟨0, rfl, Nat.zero_le _, ⟨Gr.out⟩⟩
          case round =>
            obtain ⟨nn, rfl, hn8, hkw⟩ := hrel
            by_cases hnl : nn < 8
            · have e9 : decide ((nn : Int) < 8) = true := decide_eq_true (by omega)
              go_wp2_with fail
              go_loopw [13] (fun s13 wx => ∃ mm : Nat, s13 = .int .i64 mm ∧ mm ≤ 8 ∧ Kp0 W wx) (fun s13 _ => 8 - (intOf s13).toNat)
              case atStart => exact ⟨0, rfl, Nat.zero_le _, ⟨Gr.out⟩⟩
              case round =>
                obtain ⟨mm, rfl, hm8, hkm2⟩ := hrel
                by_cases hml : mm < 8
                · have e8 : decide ((mm : Int) < 8) = true := decide_eq_true (by omega)
                  obtain ⟨c2, hc2⟩ : ∃ c2, cn[nn]? = some c2 := ⟨_, List.getElem?_eq_getElem (by rw [HL2.out]; exact hnl)⟩
                  have hcw : wr.cell? ⟨wc.heap.size + 1 + 1, nn, none⟩ = some (.int .i64 c2) := crowd_cell (HC2'.out.below Gr.out).had hc2
                  have hc2t := HC2'.out.le nn c2 hc2
                  obtain ⟨D2, F2, hmp2, hcr2, -⟩ := (HC2'.out.below (Gr.out (v := W) (W := wr))).mp
                  have hF2 := hcr2 nn mm hnl hml
                  rw [show cn.getD nn 0 = c2 by rw [List.getD_eq_getElem?_getD, hc2]; rfl] at hF2
                  rw [← nlB_list hnl hml] at hF2
                  haveI ih : BkC wr (wc.heap.size + 1) _ 51 := ⟨(HC2'.out.below (Gr.out (v := W) (W := wr))).house⟩
                  have hwi : IntKind.i32.wrap (97 + (nn : Int)) = 97 + (nn : Int) := by rw [IntKind.wrap_i32]; omega
                  have hwk : IntKind.i32.wrap (97 + (mm : Int)) = 97 + (mm : Int) := by rw [IntKind.wrap_i32]; omega
                  have hsi : (Utf8.encode (97 + (nn : Int))).size = 1 := by rw [enc_small nn hnl]; rfl
                  have hsk : (Utf8.encode (97 + (mm : Int))).size = 1 := by rw [enc_small mm hml]; rfl
                  have HNM2 : Hid (({ data := #[120] } : ByteArray) ++ Utf8.encode (97 + (nn : Int)) ++ Utf8.encode (97 + (mm : Int)) = nlB nn mm) := hid rfl
                  have HNS2 : Hid ((nlB nn mm).size ≤ 70000) := hid (by rw [nlB_size hnl hml]; decide)
                  have HNF2 := hid (nlB_fit hnl hml)
                  have HMP2 := hid hmp2
                  have HT3 := hid hc2t
                  have hc2200 : c2 ≤ 201 := by omega
                  obtain ⟨q, hq⟩ : ∃ q : Int, ((c2 : Int) - 1 - (mm : Int) + 8).tmod 8 = q := ⟨_, rfl⟩
                  have hq0 : 0 ≤ q ∧ q < 8 := by rw [← hq, Int.tmod_eq_emod_of_nonneg (by omega)]; omega
                  have b0 : (0 : Int) ≤ (nn : Int) := by omega
                  have b1 : (nn : Int) < 8 := by omega
                  have b2 : (nn : Int) ≤ 7 := by omega
                  have s1 : IntKind.i64.wrap ((c2 : Int) - 1) = (c2 : Int) - 1 := by exact IntWalk.i64_in _ (by omega)
                  have s2 : IntKind.i64.wrap ((c2 : Int) - 1 - (mm : Int)) = (c2 : Int) - 1 - (mm : Int) := by exact IntWalk.i64_in _ (by omega)
                  have s3 : IntKind.i64.wrap ((c2 : Int) - 1 - (mm : Int) + 8) = (c2 : Int) - 1 - (mm : Int) + 8 := by exact IntWalk.i64_in _ (by omega)
                  have s4 : IntKind.i64.wrap ((c2 : Int) - 1 - q) = (c2 : Int) - 1 - q := by exact IntWalk.i64_in _ (by omega)
                  unfold stv at hF2
                  by_cases hmc : mm < c2
                  · have e7 : ¬ ((c2 : Int) ≤ (mm : Int)) := by omega
                    have e7b : ¬ (c2 ≤ mm) := by omega
                    rw [if_pos hmc] at hF2
                    have hlv : (c2 : Int) - 1 - q = ((lastv c2 mm : Nat) : Int) := by
                      rw [← hq, Int.tmod_eq_emod_of_nonneg (by omega)]
                      unfold lastv
                      omega
                    have HF2 := hid hF2
                    have o1 := flI_eq nn (by omega)
                    have o2 := flI_eq (lastv c2 mm) (by unfold lastv; omega)
                    clear hF2 hmp2 hcr2 hc2 hc2t
                    go_upto_region 26 with (go_at_call 9; rw [HNM2.out]; clear hsi hsk hwi hwk; (with_reducible refine Calls.mono (hGetS HNS2 HNF2 HMP2.out HF2) ?_); rintro e wg ⟨g2, cap2, rfl, hg1, hgK, hg3⟩; have hcg : wg.cell? ⟨wc.heap.size + 1 + 1, nn, none⟩ = some (.int .i64 c2) := ((World.cell?_of_block (w := wr) (hgK.out.block _ (World.block_lt_of_cell? _ _ hcw))).trans hcw); haveI : Has wg (wc.heap.size + 1 + 1) := ⟨World.block_lt_of_cell? _ _ hcg⟩; have d2 := hg1.out.cell (i := 2) rfl)
                    go_region_held3 (fun W => W.cell? ⟨wc.heap.size + 1 + 1, nn, none⟩ = some (.int .i64 c2)) (first | exact hcg | (simp [go_sem, hcg]; done)) (fail)
                    go_wp2_with fail
                    go_round
                    case rel => exact ⟨mm + 1, rfl, by omega, ⟨Gr.out⟩⟩
                    case measure => simp [intOf]; omega
                  · have e7 : ((c2 : Int) ≤ (mm : Int)) := by omega
                    have e7b : c2 ≤ mm := by omega
                    rw [if_neg hmc] at hF2
                    have HF2 := hid hF2
                    clear hF2 hmp2 hcr2 hc2 hc2t
                    go_upto_region 26 with (go_at_call 9; rw [HNM2.out]; clear hsi hsk hwi hwk; (with_reducible refine Calls.mono (hGet0 HNS2 HNF2 HMP2.out HF2) ?_); rintro e wg ⟨rfl, hgK⟩; have hcg : wg.cell? ⟨wc.heap.size + 1 + 1, nn, none⟩ = some (.int .i64 c2) := ((World.cell?_of_block (w := wr) (hgK.out.block _ (World.block_lt_of_cell? _ _ hcw))).trans hcw); haveI : Has wg (wc.heap.size + 1 + 1) := ⟨World.block_lt_of_cell? _ _ hcg⟩)
                    go_region_held3 (fun W => W.cell? ⟨wc.heap.size + 1 + 1, nn, none⟩ = some (.int .i64 c2)) (first | exact hcg | (simp [go_sem, hcg]; done)) (fail)
                    go_wp2_with fail
                    go_round
                    case rel => exact ⟨mm + 1, rfl, by omega, ⟨Gr.out⟩⟩
                    case measure => simp [intOf]; omega
                · have e8 : decide ((mm : Int) < 8) = false := decide_eq_false (by omega)
                  go_wp2_with fail
                  case roundEnd => exact ⟨⟨nn + 1, rfl, by omega, ⟨Gr.out⟩⟩, by simp [intOf]; omega⟩
            · have e9 : decide ((nn : Int) < 8) = false := decide_eq_false (by omega)
              go_wp2_with fail
              case roundEnd =>
                refine ⟨⟨t + 1, cn, rfl, congrArg (Value.int .i64) ?_, by omega, HC2'.out.below Gr.out⟩, by simp [intOf]; omega⟩
                have h1 := HT'.out
                have h2 := HB8.out
                have h3 := HT2.out
                first
                  | (rw [if_neg (show ¬ c < 8 by have := of_decide_eq_false h2; omega)] at h1; simp only [Int.ofNat_eq_natCast] at h1; omega)
                  | (rw [if_pos (show c < 8 by have := of_decide_eq_true h2; omega)] at h1; simp only [Int.ofNat_eq_natCast] at h1; omega)
      · haveI ih : BkC wr (wc.heap.size + 1) _ 51 := ⟨hcr.house⟩
        haveI ig : Gr w wr := ⟨hcr.gr⟩
        obtain ⟨D, F, hmp, -, hsz⟩ := hcr.mp
        have htl : total cnt ≤ 64 := by have := total_le cnt; have := hcr.len; omega
        have HMP := hid hmp
        have HSZ := hid hsz
        clear hcr hmp hsz
        go_wp2_with (go_at_call 10; (with_reducible refine Calls.mono (hNames HMP.out (by omega)) ?_); rintro e wN ⟨v, ss, Bn, rfl, hp, ho, hk⟩; obtain ⟨k1, k2, k3⟩ := keys_rise HMP.out.own hp; rw [k1, HSZ.out] at ho; obtain ⟨an, capn, rfl, hcells⟩ := own_form ho; have K1 := hid (k1.trans HSZ.out); have K3 := hid k3; have HCE := hid hcells; have K2 := hid k2; clear k1 k2 k3 hcells ho hp)
        generalize total cnt = Ln at *
        go_loopw [18] (fun s18 wx => ∃ j : Nat, s18 = .int .i64 j ∧ 1 ≤ j ∧ Kp0 wN wx) (fun s18 _ => Ln - (intOf s18).toNat)
        case atStart => exact ⟨1, rfl, Nat.le_refl _, ⟨Gr.out⟩⟩
        case round =>
          obtain ⟨j, rfl, hj1, hkw⟩ := hrel
          by_cases hjl : j < Ln
          · obtain ⟨g, rfl, hce⟩ := HCE.out (by omega)
            have e9 : (j : Int) < (Ln : Int) := by omega
            obtain ⟨i, hi⟩ : ∃ i, j = i + 1 := ⟨j - 1, by omega⟩
            have hLlen : (ss.mergeSort (fun x y => decide (x ≤ y))).length = Ln := K2.out.trans K1.out
            have hxi := List.getElem?_eq_getElem (l := ss.mergeSort (fun x y => decide (x ≤ y))) (i := i) (by omega)
            have hxj := List.getElem?_eq_getElem (l := ss.mergeSort (fun x y => decide (x ≤ y))) (i := i + 1) (by omega)
            have hlt := K3.out i _ _ hxi hxj
            have hci := hce i (by rw [List.length_map]; omega)
            have hcj := hce (i + 1) (by rw [List.length_map]; omega)
            rw [List.getElem?_map, hxi] at hci
            rw [List.getElem?_map, hxj] at hcj
            generalize (ss.mergeSort (fun x y => decide (x ≤ y)))[i]'(by omega) = la at hlt hci
            generalize (ss.mergeSort (fun x y => decide (x ≤ y)))[i + 1]'(by omega) = lb at hlt hcj
            rw [← hi] at hcj
            have hgl : g < wN.heap.size := World.block_lt_of_cell? _ _ hci
            have dci : wr.cell? ⟨g, i, none⟩ = some (.string ⟨la.toArray⟩) := (World.cell?_of_block (w := wN) (hkw.out.block g hgl)).trans hci
            have dcj : wr.cell? ⟨g, j, none⟩ = some (.string ⟨lb.toArray⟩) := (World.cell?_of_block (w := wN) (hkw.out.block g hgl)).trans hcj
            generalize (⟨la.toArray⟩ : ByteArray) = sa at hlt dci
            generalize (⟨lb.toArray⟩ : ByteArray) = sb at hlt dcj
            haveI : Has wr g := ⟨World.block_lt_of_cell? _ _ dci⟩
            have hz : IntKind.i64.wrap ((j : Int) - 1) = ((i : Nat) : Int) := by rw [IntWalk.i64_in _ (by omega)]; omega
            have z1 : (0 : Int) ≤ (i : Int) := by omega
            have z2 : (i : Int) < (Ln : Int) := by omega
            have z3 : (i : Int) ≤ (Ln : Int) := by omega
            have z4 : (0 : Int) ≤ (j : Int) := by omega
            have z5 : (j : Int) ≤ (Ln : Int) := by omega
            have HI := hid hi
            clear hi hci hcj hce hxi hxj hLlen
            go_upto_region 36 with fail
            go_region_held3 (fun W => W.cell? ⟨g, i, none⟩ = some (.string sa) ∧ W.cell? ⟨g, j, none⟩ = some (.string sb)) (refine ⟨?_, ?_⟩ <;> first | exact dci | exact dcj | (simp [go_sem, dci, dcj]; done)) (fail)
            go_wp2_with fail
            go_round
            case rel => exact ⟨j + 1, rfl, by omega, ⟨Gr.out⟩⟩
            case measure => simp [intOf]; omega
          · have e9 : ¬ (j : Int) < (Ln : Int) := by omega
            have e8 : ¬ j < Ln := by omega
            go_wp2_with fail
            go_ret
            exact ⟨rfl, ⟨Gr.out⟩⟩
end
section
open Go.RowKit
open Go.Maps Go.ChangeMaps
set_option synthInstance.maxHeartbeats 2000000 in
set_option synthInstance.maxSize 100000 in
set_option maxRecDepth 100000 in
set_option maxHeartbeats 16000000 in
theorem hLoad0 {w : World} (V : Vars w) (h10 : 10 ≤ w.heap.size) : Calls Tryz.prog 40 #[.string houB] w fun e w' => ∃ (m b : Nat) (F : List UInt8 → Option (Nat × Nat)), e = .returned (.tuple #[.map (some m), .pointer none]) ∧ Mp w' m 1 ((DataW.map [] : DataW Unit).put (.string wingB.data.toList) (.lit (.int .i64 (b : Nat)))) F ∧ Kp0 w w' ∧ UpW w m := by
  have VW := hid (fun (W : World) (hg : Below w.heap.size w W) => V.keep (Keeps.of_below (S := []) hg) h10 (by simp))
  have H10 := hid h10
  have hsz := houB_size
  have hmm := @run_makeMap Tryz.prog
  have hkey : keyOf Tryz.prog 9 (.string wingB) = some (.string wingB.data.toList) := Go.WideMaps.keyOf_string_mk und9z (by unfold maxLen; decide +kernel)
  clear V h10
  go_enter Tryz.func40, Tryz.ntmps40
  go_wp2_with (first | (go_at_call 67; (with_reducible refine Calls.mono (hWordB (i := 0) (j := 19) (I := 0) (J := 19) [⟨#[101, 100, 100, 121]⟩, ⟨#[32]⟩, ⟨#[104, 111, 117, 115, 101]⟩, ⟨#[32]⟩, ⟨#[49]⟩, ⟨#[10]⟩, ⟨#[110, 97, 109, 101, 115]⟩, ⟨#[32]⟩] rfl rfl rfl rfl (by decide) (by rw [houB_size]; decide) (by rw [houB_size]; decide) (by decide +kernel)) ?_); rintro e w1 ⟨rfl, _, _⟩; have d0 := (inferInstance : BkC w1 w.heap.size _ 131).out.cell (i := 0) rfl; have d1 := (inferInstance : BkC w1 w.heap.size _ 131).out.cell (i := 1) rfl) | (go_at_call 68; (with_reducible refine Calls.mono hWholeA ?_); rintro e w2 ⟨rfl, _, _⟩; have d0 := (inferInstance : BkC w2 w.heap.size _ 131).out.cell (i := 0) rfl; have d1 := (inferInstance : BkC w2 w.heap.size _ 131).out.cell (i := 1) rfl) | (go_at_call 67; (with_reducible refine Calls.mono (hWordB (i := 20) (j := 21) (I := 20) (J := 21) [⟨#[10]⟩] rfl rfl rfl rfl (by decide) (by rw [houB_size]; decide) (by rw [houB_size]; decide) (by decide +kernel)) ?_); rintro e w3 ⟨rfl, _, _⟩; have d0 := (inferInstance : BkC w3 w.heap.size _ 131).out.cell (i := 0) rfl; have d1 := (inferInstance : BkC w3 w.heap.size _ 131).out.cell (i := 1) rfl))
  go_loopw [10, 44] (fun s10 s44 wx => ∃ j : Int, s44 = .int .i64 j ∧ Kp0 w wx ∧ (j = 0 ∧ s10 = .string ⟨#[]⟩ ∧ BkC wx w.heap.size [.string houB, .int .i64 21] 131 ∧ Mp wx w3.heap.size 0 (.map []) (fun _ => none) ∨ j = 1 ∧ ∃ (b : Nat) (F : List UInt8 → Option (Nat × Nat)), BkC wx w.heap.size [.string houB, .int .i64 174] 131 ∧ Mp wx w3.heap.size 1 ((DataW.map [] : DataW Unit).put (.string wingB.data.toList) (.lit (.int .i64 (b : Nat)))) F)) (fun _ s44 _ => 1 - (intOf s44).toNat)
  case atStart =>
    refine ⟨0, rfl, ⟨Gr.out⟩, .inl ⟨rfl, rfl, inferInstance, mp_made w3⟩⟩
  case round =>
    have l1 : w.heap.size < w3.heap.size := (inferInstance : Has w3 w.heap.size).lt
    have nm1 : ¬ w3.heap.size = w.heap.size := by omega
    haveI hup3 : Up w.heap.size w3.heap.size := ⟨Nat.le_of_lt l1⟩
    obtain ⟨j, rfl, hkw, hj⟩ := hrel
    rcases hj with ⟨rfl, rfl, ib, hmp⟩ | ⟨rfl, b, F, ib, hmp⟩
    · go_wp2_with (first | (go_at_call 69; (with_reducible refine Calls.mono (hFlow (r := w.heap.size) (VW.out _ Gr.out) (Nat.le_trans H10.out (Gr.out (v := w) (W := wr)).size) H10.out) ?_); rintro e wf ⟨g1, cap1, rfl, _, _, _, hu⟩; have hm3 : Hid (Mp (wf.alloc (.cells #[.slice (some ⟨g1, 0, none⟩) 1 cap1] 29)) w3.heap.size 0 (.map []) (fun _ => none)) := hid ((hmp.keep (inferInstance : KpS wr [w.heap.size] wf).out (by simpa using nm1) (fun q hq C T hT => by rw [List.mem_singleton] at hq; subst hq; rw [ib.out] at hT; simp only [Option.some.injEq, Obj.cells.injEq] at hT; rw [← hT.2.1]; decide)).below ((Below.refl _ _).alloc (Nat.le_refl _) _))) | (at_mapUpdate; refine wpList_mapUpdate_in _ rfl _ _ _ 49 rfl 9 79 keyed9 und49z Rp w3.heap.size 0 (.map []) rfl hm3.out.own (by unfold maxLen; omega) _ _ _ rfl rfl hkey _ [] rfl ?_; intro wu ho1 ht1; haveI hk1 : KpS (wf.alloc (.cells #[.slice (some ⟨g1, 0, none⟩) 1 cap1] 29)) [w3.heap.size] wu := ⟨turned_keeps ht1⟩))
      case roundEnd => exact ⟨⟨1, rfl, ⟨Gr.out⟩, .inr ⟨rfl, wf.heap.size, _, inferInstance, hm3.out.put (inferInstance : BkC _ wf.heap.size _ 29).out (inferInstance : FsC (wf.alloc (.cells #[.slice (some ⟨g1, 0, none⟩) 1 cap1] 29)) g1 _).out ho1 ht1⟩⟩, by simp [intOf]⟩
    · go_wp2_with (go_at_call 70; (with_reducible refine Calls.mono (hEnd (r := w.heap.size) (VW.out _ Gr.out) (Nat.le_trans H10.out (Gr.out (v := w) (W := wr)).size) H10.out) ?_); rintro e we ⟨rfl, _⟩)
      go_ret2
      exact ⟨w3.heap.size, b, F, rfl, hmp.keep (inferInstance : KpS wr [w.heap.size] we).out (by simpa using nm1) (fun q hq C T hT => by rw [List.mem_singleton] at hq; subst hq; rw [ib.out] at hT; simp only [Option.some.injEq, Obj.cells.injEq] at hT; rw [← hT.2.1]; decide), ⟨Gr.out⟩, ⟨Nat.le_of_lt l1⟩⟩
end
section
open Go.RowKit
open Go.Maps Go.ChangeMaps
set_option synthInstance.maxHeartbeats 2000000 in
set_option synthInstance.maxSize 100000 in
set_option maxRecDepth 100000 in
set_option maxHeartbeats 16000000 in
theorem hLoad {w : World} {h m : Nat} [hh : BkC w h [.bool true, .int .i32 0, .int .u32 0, .map (some m)] 51] (V : Vars w) (h10 : 10 ≤ w.heap.size) : Calls Tryz.prog 14 #[.pointer (some ⟨h, 0, none⟩), .string houB] w fun e w' => e = .returned .nilIface ∧ ∃ (m2 b : Nat) (F : List UInt8 → Option (Nat × Nat)), BkC w' h [.bool true, .int .i32 0, .int .u32 0, .map (some m2)] 51 ∧ Mp w' m2 1 ((DataW.map [] : DataW Unit).put (.string wingB.data.toList) (.lit (.int .i64 (b : Nat)))) F ∧ KpS w [h] w' := by
  have VW := hid (fun (W : World) (hg : Below w.heap.size w W) => V.keep (Keeps.of_below (S := []) hg) h10 (by simp))
  have H10 := hid h10
  clear V h10
  go_enter_defers Tryz.func14, Tryz.ntmps14
  go_wp2_with (first | (go_at_call 24; (with_reducible refine Calls.mono (hKnownN (m := m) (h := h)) ?_); rintro e wk ⟨rfl, hk0⟩) | (go_at_call 40; (with_reducible refine Calls.mono (hLoad0 (VW.out _ Gr.out) (Nat.le_trans H10.out (Gr.out (v := w) (W := wk)).size)) ?_); rintro e wa ⟨m2, b, F, rfl, hmp, hka, hua⟩; have ck : wa.cell? ⟨h, 1, none⟩ = some (.int .i32 0) := (inferInstance : BkC wa h _ _).out.cell rfl; have fk := (inferInstance : BkC wa h _ _).out.free 1; have ck3 : wa.cell? ⟨h, 3, none⟩ = some (.map (some m)) := (inferInstance : BkC wa h _ _).out.cell rfl; have fk3 := (inferInstance : BkC wa h _ _).out.free 3) | (go_at_call 25; (with_reducible refine Calls.mono (Go.MuLone.lock_free Tryz.muLib ⟨h, 1, none⟩ wa ck fk) ?_); rintro e wl ⟨rfl, rfl⟩))
  have h1 := (inferInstance : BkC wa h _ 51).out
  have h2 := (inferInstance : BkC (wa.setCell ⟨h, 1, none⟩ (.int .i32 1)) h _ 51).out
  have h3 := (inferInstance : BkC ((wa.setCell ⟨h, 1, none⟩ (.int .i32 1)).setCell ⟨h, 3, none⟩ (.map (some m2))) h _ 51).out
  refine leaves_cons (f := 26) (args := #[.pointer (some ⟨h, 1, none⟩)]) (by simp) (by simp [go_sem]) ?_
  refine (Go.MuLone.unlock_deferred Tryz.muLib ⟨h, 1, none⟩ .returning _ ?_ ?_).mono ?_
  · exact h3.cell rfl
  · exact h3.free 1
  rintro e u' w'' ⟨rfl, rfl, rfl⟩
  exact ⟨_, results_tmp rfl _ _ _, rfl, m2, b, F, inferInstance, ((hmp.lock h1 1 (.int .i32 1)).lock h2 3 (.map (some m2))).lock h3 1 (.int .i32 0), ⟨GS.out⟩⟩
end
section
open Go.RowKit
open Go.Maps Go.ChangeMaps
set_option synthInstance.maxHeartbeats 2000000 in
set_option synthInstance.maxSize 100000 in
set_option maxRecDepth 100000 in
set_option maxHeartbeats 16000000 in
theorem hJoin {w : World} {h m n : Nat} {nm s2 s3 : ByteArray} {D : DataW Unit} {F : List UInt8 → Option (Nat × Nat)} {a2 a3 : Nat × Nat} (hsz : nm.size ≤ 70000) (hfit : fitL nm.data.toList = true) (hsz2 : s2.size ≤ 70000) (hfit2 : fitL s2.data.toList = true) (hsz3 : s3.size ≤ 70000) (hfit3 : fitL s3.data.toList = true) [hh : BkC w h [.bool true, .int .i32 0, .int .u32 0, .map (some m)] 51] (hm : Mp w m n D F) (hn : n < 1000000) (hFi : (F nm.data.toList).isSome = true) (hF2 : F s2.data.toList = some a2) (hF3 : F s3.data.toList = some a3) [ok2 : OkS a2] [ok3 : OkS a3] :
    Calls Tryz.prog 16 #[.pointer (some ⟨h, 0, none⟩), .string nm, .string s2, .string s3] w fun e w' => e = .returned (.int .i64 0) ∧ ∃ b : Nat, BkC w' h [.bool true, .int .i32 0, .int .u32 0, .map (some m)] 51 ∧ Mk w' m (n + 1) (D.put (.string nm.data.toList) (.lit (.int .i64 b))) (fun q => if q = nm.data.toList then true else (F q).isSome) ∧ KpS w [h, m] w' := by
  have hm' := hid (hm.below (Gr.out : Below w.heap.size w (w.alloc (.cells #[.string s2, .string s3] 9))))
  have A1 := hid hsz
  have A2 := hid hfit
  have A3 := hid hsz2
  have A4 := hid hfit2
  have A5 := hid hsz3
  have A6 := hid hfit3
  have A7 := hid hn
  have A8 := hid hFi
  have A9 := hid hF2
  have A10 := hid hF3
  have ltm : Has w m := ⟨by obtain ⟨es, c, e⟩ := hm.heap; exact lt_of_block e⟩
  clear hsz hfit hsz2 hfit2 hsz3 hfit3 hn hFi hF2 hF3 hm
  go_enter Tryz.func16, Tryz.ntmps16
  go_wp2_with (go_at_call 19; (with_reducible refine Calls.mono (hChangeJ (g2 := w.heap.size) (nm := nm) (s2 := s2) (s3 := s3) A1 A2 A3 A4 A5 A6 hm'.out A7 A8 A9 A10) ?_); rintro e wc ⟨rfl, b, hb1, hb2, hb3⟩)
  go_ret
  exact ⟨rfl, b, hb1, hb2, ⟨GS.out⟩⟩
set_option synthInstance.maxHeartbeats 2000000 in
set_option synthInstance.maxSize 100000 in
set_option maxRecDepth 100000 in
set_option maxHeartbeats 16000000 in
theorem hJoinBad {w : World} {h m : Nat} {nm s2 s3 : ByteArray} (hsz : nm.size ≤ 70000) (hfit : fitL nm.data.toList = false) [hh : BkC w h [.bool true, .int .i32 0, .int .u32 0, .map (some m)] 51] :
    Calls Tryz.prog 16 #[.pointer (some ⟨h, 0, none⟩), .string nm, .string s2, .string s3] w fun e w' => e = .returned (.int .i64 310) ∧ Kp0 w w' := by
  have A1 := hid hsz
  have A2 := hid hfit
  clear hsz hfit
  go_enter Tryz.func16, Tryz.ntmps16
  go_wp2_with (go_at_call 19; (with_reducible refine Calls.mono (hChangeBadR (m := m) (g2 := w.heap.size) (nm := nm) (s2 := s2) (s3 := s3) A1 A2) ?_); rintro e wc ⟨rfl, _⟩)
  go_ret
  exact ⟨rfl, ⟨Gr.out⟩⟩
set_option synthInstance.maxHeartbeats 2000000 in
set_option synthInstance.maxSize 100000 in
set_option maxRecDepth 100000 in
set_option maxHeartbeats 16000000 in
theorem hConjG {w : World} {h m n : Nat} {nm s2 : ByteArray} {D : DataW Unit} {K : List UInt8 → Bool} (hsz : nm.size ≤ 70000) (hfit : fitL nm.data.toList = true) (hsz2 : s2.size ≤ 70000) (hfit2 : fitL s2.data.toList = true) [hh : BkC w h [.bool true, .int .i32 0, .int .u32 0, .map (some m)] 51] (hm : Mk w m n D K) (hK : K s2.data.toList = false) :
    Calls Tryz.prog 17 #[.pointer (some ⟨h, 0, none⟩), .string nm, .string s2] w fun e w' => e = .returned (.int .i64 9) ∧ Kp0 w w' := by
  have hm' := hid (hm.below (Gr.out : Below w.heap.size w (w.alloc (.cells #[.string s2] 9))))
  have A1 := hid hsz
  have A2 := hid hfit
  have A3 := hid hsz2
  have A4 := hid hfit2
  have A5 := hid hK
  clear hsz hfit hsz2 hfit2 hK hm
  go_enter Tryz.func17, Tryz.ntmps17
  go_wp2_with (go_at_call 19; (with_reducible refine Calls.mono (hChangeG (g2 := w.heap.size) (nm := nm) (s2 := s2) A1 A2 A3 A4 hm'.out A5) ?_); rintro e wc ⟨rfl, _⟩)
  go_ret
  exact ⟨rfl, ⟨Gr.out⟩⟩
set_option synthInstance.maxHeartbeats 2000000 in
set_option synthInstance.maxSize 100000 in
set_option maxRecDepth 100000 in
set_option maxHeartbeats 16000000 in
theorem hWordX {w : World} {r g n c i : Nat} {s : ByteArray} (ws : List ByteArray) [hr : BkC w r [.string s, .int .i64 (i : Nat)] 131] (hi : i ≤ s.size) (hs : s.size ≤ 70000) (hn : ws.length = n) (hn2 : n ≤ 100) (hg : g ≠ r) (hg2 : g < w.heap.size) (hc : ∀ j, j < n → w.cell? ⟨g, j, none⟩ = some (.string (ws.getD j default))) (hok : (wordS s.data.toList (ws.map fun x => x.data.toList) i).2 = false) :
    Calls Tryz.prog 67 #[.pointer (some ⟨r, 0, none⟩), .slice (some ⟨g, 0, none⟩) n c] w fun e w' => ∃ b, e = .returned (.pointer (some ⟨b, 0, none⟩)) ∧ BkC w' b [.int .i64 290, .int .i64 ((wordS s.data.toList (ws.map fun x => x.data.toList) i).1 : Nat)] 58 ∧ KpS w [r] w' ∧ UpW w b := by
  have C := hid hc
  have HOK := hid hok
  clear hc hok
  obtain ⟨Q, hQ⟩ : ∃ Q, Q = wordS s.data.toList (ws.map fun x => x.data.toList) i := ⟨_, rfl⟩
  rw [← hQ] at HOK ⊢
  have HQ := hid hQ
  clear hQ
  go_enter Tryz.func67, Tryz.ntmps67
  go_wp2_with fail
  go_loopw [9] (fun t wr => ∃ (k i' : Nat), k ≤ n ∧ t = .int .i64 k ∧ i' ≤ s.size ∧ BkC wr r [.string s, .int .i64 (i' : Nat)] 131 ∧ KpS w [r] wr ∧ Hid (wordS s.data.toList ((ws.drop k).map fun x => x.data.toList) i' = Q)) (fun t _ => n - (intOf t).toNat)
  case atStart => exact ⟨0, i, Nat.zero_le _, rfl, hi, inferInstance, ⟨GS.out⟩, hid HQ.out.symm⟩
  case round =>
    obtain ⟨k, i', hk, rfl, hi', ib, ik, hm⟩ := hrel
    by_cases hlt : k < n
    · have ck : wr.cell? ⟨g, k, none⟩ = some (.string (ws.getD k default)) := ((ik.out.cell (q := ⟨g, k, none⟩) hg2 (by simpa using hg))).trans (C.out k hlt)
      have hdr : ws.drop k = ws.getD k default :: ws.drop (k + 1) := by
        rw [List.drop_eq_getElem_cons (by omega), List.getD_eq_getElem?_getD, List.getElem?_eq_getElem (by omega)]
        rfl
      have hm' := hm.out
      clear hm
      rw [hdr, List.map_cons] at hm'
      generalize ws.getD k default = x at ck hm'
      clear hdr
      cases hp : x.data.toList.isPrefixOf (s.data.toList.drop i')
      · have hpe := prefix_eq s x i' hi'
        rw [hp] at hpe
        have hpf := hpe
        rw [Lib.extract_data] at hpf
        rw [wordS, if_neg (by rw [hp]; decide)] at hm'
        have HM : Q.1 = i' := by rw [← hm']
        have d0 := ib.out.cell (i := 0) rfl
        have d1 := ib.out.cell (i := 1) rfl
        have f1 := ib.out.free 1
        have hglt := World.block_lt_of_cell? _ _ ck
        clear hp hm'
        go_wp2_with fail
        go_quiet ((go_at_call 103; exact Calls.quiet_of_same (Tryz.strings_HasPrefix _ _ _)))
        haveI ib2 : BkC (wr.drewN nq) r [.string s, .int .i64 (i' : Nat)] 131 := ⟨ib.out⟩
        haveI ik2 : GS w [r] (wr.drewN nq) := ⟨(GS.out (v := w) (S := [r]) (W := wr)).drewN nq⟩
        have e1 := ib2.out.cell (i := 1) rfl
        go_wp2_with (go_at_call 39; (with_reducible refine Calls.mono hWrong ?_); rintro e wx ⟨rfl, rfl⟩)
        go_ret
        exact ⟨_, rfl, by rw [HM]; exact (inferInstance : BkC ((wr.drewN nq).alloc (.cells #[.int .i64 290, .int .i64 (i' : Nat)] 58)) (wr.drewN nq).heap.size _ 58), ⟨GS.out⟩, ⟨(GS.out (v := w) (S := [r]) (W := wr.drewN nq)).size⟩⟩
      · have hpe := prefix_eq s x i' hi'
        rw [hp] at hpe
        have hpf := hpe
        rw [Lib.extract_data] at hpf
        have hle := pref_le hp hi'
        rw [wordS, if_pos hp] at hm'
        have HM := hid hm'
        have d0 := ib.out.cell (i := 0) rfl
        have d1 := ib.out.cell (i := 1) rfl
        have f1 := ib.out.free 1
        have hglt := World.block_lt_of_cell? _ _ ck
        clear hp hm'
        go_wp2_with fail
        go_quiet ((go_at_call 103; exact Calls.quiet_of_same (Tryz.strings_HasPrefix _ _ _)))
        go_wp2_with fail
        go_roundw
        case rel =>
          haveI ib2 : BkC (wr.drewN nq) r [.string s, .int .i64 (i' : Nat)] 131 := ⟨ib.out⟩
          haveI ik2 : GS w [r] (wr.drewN nq) := ⟨(GS.out (v := w) (S := [r]) (W := wr)).drewN nq⟩
          refine ⟨k + 1, i' + x.size, by omega, by rfl, hle, ?_, ⟨GS.out⟩, hid (by have := HM.out; rwa [show x.data.toList.length = x.size by simp] at this)⟩
          have := (inferInstance : BkC ((wr.drewN nq).setCell ⟨r, 1, none⟩ (.int .i64 ((i' : Int) + (x.size : Int)))) r _ 131)
          exact this
        case measure => simp [intOf]; omega
    · obtain rfl : k = n := by omega
      have hm' := hm.out
      rw [List.drop_of_length_le (by omega)] at hm'
      exfalso
      have := HOK.out
      rw [← hm'] at this
      cases this
set_option synthInstance.maxHeartbeats 2000000 in
set_option synthInstance.maxSize 100000 in
set_option maxRecDepth 100000 in
set_option maxHeartbeats 16000000 in
theorem hWordE {w : World} {r g c : Nat} [hr : BkC w r [.string ⟨#[]⟩, .int .i64 0] 131] [hg : BkC w g [.string ⟨#[101, 100, 100, 121]⟩, .string ⟨#[32]⟩, .string ⟨#[104, 111, 117, 115, 101]⟩, .string ⟨#[32]⟩, .string ⟨#[49]⟩, .string ⟨#[10]⟩, .string ⟨#[110, 97, 109, 101, 115]⟩, .string ⟨#[32]⟩] 9] (hgr : g ≠ r) :
    Calls Tryz.prog 67 #[.pointer (some ⟨r, 0, none⟩), .slice (some ⟨g, 0, none⟩) 8 c] w fun e w' => ∃ b, e = .returned (.pointer (some ⟨b, 0, none⟩)) ∧ BkC w' b [.int .i64 290, .int .i64 0] 58 ∧ KpS w [r] w' ∧ UpW w b := by
  have q : (wordS (⟨#[]⟩ : ByteArray).data.toList (([⟨#[101, 100, 100, 121]⟩, ⟨#[32]⟩, ⟨#[104, 111, 117, 115, 101]⟩, ⟨#[32]⟩, ⟨#[49]⟩, ⟨#[10]⟩, ⟨#[110, 97, 109, 101, 115]⟩, ⟨#[32]⟩] : List ByteArray).map fun x => x.data.toList) 0).1 = 0 := by decide +kernel
  refine (hWordX (i := 0) (n := 8) [⟨#[101, 100, 100, 121]⟩, ⟨#[32]⟩, ⟨#[104, 111, 117, 115, 101]⟩, ⟨#[32]⟩, ⟨#[49]⟩, ⟨#[10]⟩, ⟨#[110, 97, 109, 101, 115]⟩, ⟨#[32]⟩] (by decide +kernel) (by decide +kernel) rfl (by decide) hgr hg.out.lt (fun j hj => ?_) (by decide +kernel)).mono fun e w' hx => by rw [q] at hx; exact hx
  match j, hj with
  | 0, _ => exact hg.out.cell rfl
  | 1, _ => exact hg.out.cell rfl
  | 2, _ => exact hg.out.cell rfl
  | 3, _ => exact hg.out.cell rfl
  | 4, _ => exact hg.out.cell rfl
  | 5, _ => exact hg.out.cell rfl
  | 6, _ => exact hg.out.cell rfl
  | 7, _ => exact hg.out.cell rfl
set_option synthInstance.maxHeartbeats 2000000 in
set_option synthInstance.maxSize 100000 in
set_option maxRecDepth 100000 in
set_option maxHeartbeats 16000000 in
theorem hLoad0E {w : World} : Calls Tryz.prog 40 #[.string ⟨#[]⟩] w fun e w' => ∃ b, e = .returned (.tuple #[.map none, .pointer (some ⟨b, 0, none⟩)]) ∧ BkC w' b [.int .i64 290, .int .i64 0] 58 ∧ Kp0 w w' ∧ UpW w b := by
  go_enter Tryz.func40, Tryz.ntmps40
  go_wp2_with (go_at_call 67; (with_reducible refine Calls.mono (hWordE (by simp)) ?_); rintro e w1 ⟨b, rfl, _, _, hu⟩)
  go_ret2
  exact ⟨_, rfl, inferInstance, ⟨Gr.out⟩, ⟨Nat.le_trans (Gr.out (v := w)).size hu.out⟩⟩
set_option synthInstance.maxHeartbeats 2000000 in
set_option synthInstance.maxSize 100000 in
set_option maxRecDepth 100000 in
set_option maxHeartbeats 16000000 in
theorem hLoadE {w : World} {h m : Nat} [hh : BkC w h [.bool true, .int .i32 0, .int .u32 0, .map (some m)] 51] : Calls Tryz.prog 14 #[.pointer (some ⟨h, 0, none⟩), .string ⟨#[]⟩] w fun e w' => ∃ b, e = .returned (.iface 93 (.pointer (some ⟨b, 0, none⟩))) ∧ BkC w' b [.int .i64 290, .int .i64 0] 58 ∧ Kp0 w w' ∧ UpW w b := by
  go_enter_defers Tryz.func14, Tryz.ntmps14
  go_wp2_with (first | (go_at_call 24; (with_reducible refine Calls.mono (hKnownN (m := m) (h := h)) ?_); rintro e wk ⟨rfl, hk0⟩) | (go_at_call 40; (with_reducible refine Calls.mono (hLoad0E) ?_); rintro e wa ⟨b, rfl, _, _, hu⟩))
  exact ⟨_, results_tmp rfl _ _ _, _, rfl, inferInstance, ⟨Gr.out⟩, ⟨Nat.le_trans (Gr.out (v := w)).size hu.out⟩⟩
set_option synthInstance.maxHeartbeats 2000000 in
set_option synthInstance.maxSize 100000 in
set_option maxRecDepth 100000 in
set_option maxHeartbeats 16000000 in
theorem hWordH {w : World} {r g c : Nat} [hr : BkC w r [.string ⟨#[101, 100, 100, 121, 32, 104, 111, 117, 115, 101, 32, 49]⟩, .int .i64 0] 131] [hg : BkC w g [.string ⟨#[101, 100, 100, 121]⟩, .string ⟨#[32]⟩, .string ⟨#[104, 111, 117, 115, 101]⟩, .string ⟨#[32]⟩, .string ⟨#[49]⟩, .string ⟨#[10]⟩, .string ⟨#[110, 97, 109, 101, 115]⟩, .string ⟨#[32]⟩] 9] (hgr : g ≠ r) :
    Calls Tryz.prog 67 #[.pointer (some ⟨r, 0, none⟩), .slice (some ⟨g, 0, none⟩) 8 c] w fun e w' => ∃ b, e = .returned (.pointer (some ⟨b, 0, none⟩)) ∧ BkC w' b [.int .i64 290, .int .i64 12] 58 ∧ KpS w [r] w' ∧ UpW w b := by
  have q : (wordS (⟨#[101, 100, 100, 121, 32, 104, 111, 117, 115, 101, 32, 49]⟩ : ByteArray).data.toList (([⟨#[101, 100, 100, 121]⟩, ⟨#[32]⟩, ⟨#[104, 111, 117, 115, 101]⟩, ⟨#[32]⟩, ⟨#[49]⟩, ⟨#[10]⟩, ⟨#[110, 97, 109, 101, 115]⟩, ⟨#[32]⟩] : List ByteArray).map fun x => x.data.toList) 0).1 = 12 := by decide +kernel
  refine (hWordX (i := 0) (n := 8) [⟨#[101, 100, 100, 121]⟩, ⟨#[32]⟩, ⟨#[104, 111, 117, 115, 101]⟩, ⟨#[32]⟩, ⟨#[49]⟩, ⟨#[10]⟩, ⟨#[110, 97, 109, 101, 115]⟩, ⟨#[32]⟩] (by decide +kernel) (by decide +kernel) rfl (by decide) hgr hg.out.lt (fun j hj => ?_) (by decide +kernel)).mono fun e w' hx => by rw [q] at hx; exact hx
  match j, hj with
  | 0, _ => exact hg.out.cell rfl
  | 1, _ => exact hg.out.cell rfl
  | 2, _ => exact hg.out.cell rfl
  | 3, _ => exact hg.out.cell rfl
  | 4, _ => exact hg.out.cell rfl
  | 5, _ => exact hg.out.cell rfl
  | 6, _ => exact hg.out.cell rfl
  | 7, _ => exact hg.out.cell rfl
set_option synthInstance.maxHeartbeats 2000000 in
set_option synthInstance.maxSize 100000 in
set_option maxRecDepth 100000 in
set_option maxHeartbeats 16000000 in
theorem hLoad0H {w : World} : Calls Tryz.prog 40 #[.string ⟨#[101, 100, 100, 121, 32, 104, 111, 117, 115, 101, 32, 49]⟩] w fun e w' => ∃ b, e = .returned (.tuple #[.map none, .pointer (some ⟨b, 0, none⟩)]) ∧ BkC w' b [.int .i64 290, .int .i64 12] 58 ∧ Kp0 w w' ∧ UpW w b := by
  go_enter Tryz.func40, Tryz.ntmps40
  go_wp2_with (go_at_call 67; (with_reducible refine Calls.mono (hWordH (by simp)) ?_); rintro e w1 ⟨b, rfl, _, _, hu⟩)
  go_ret2
  exact ⟨_, rfl, inferInstance, ⟨Gr.out⟩, ⟨Nat.le_trans (Gr.out (v := w)).size hu.out⟩⟩
set_option synthInstance.maxHeartbeats 2000000 in
set_option synthInstance.maxSize 100000 in
set_option maxRecDepth 100000 in
set_option maxHeartbeats 16000000 in
theorem hLoadH {w : World} {h m : Nat} [hh : BkC w h [.bool true, .int .i32 0, .int .u32 0, .map (some m)] 51] : Calls Tryz.prog 14 #[.pointer (some ⟨h, 0, none⟩), .string ⟨#[101, 100, 100, 121, 32, 104, 111, 117, 115, 101, 32, 49]⟩] w fun e w' => ∃ b, e = .returned (.iface 93 (.pointer (some ⟨b, 0, none⟩))) ∧ BkC w' b [.int .i64 290, .int .i64 12] 58 ∧ Kp0 w w' ∧ UpW w b := by
  go_enter_defers Tryz.func14, Tryz.ntmps14
  go_wp2_with (first | (go_at_call 24; (with_reducible refine Calls.mono (hKnownN (m := m) (h := h)) ?_); rintro e wk ⟨rfl, hk0⟩) | (go_at_call 40; (with_reducible refine Calls.mono (hLoad0H) ?_); rintro e wa ⟨b, rfl, _, _, hu⟩))
  exact ⟨_, results_tmp rfl _ _ _, _, rfl, inferInstance, ⟨Gr.out⟩, ⟨Nat.le_trans (Gr.out (v := w)).size hu.out⟩⟩
end
section
open Go.RowKit
set_option synthInstance.maxHeartbeats 2000000 in
set_option synthInstance.maxSize 100000 in
set_option maxRecDepth 100000 in
set_option maxHeartbeats 16000000 in
theorem hPotFlow {w : World} {b cap : Nat} [hb : FsC w b (4611686018427387904, 4607182418800017408)] : Calls Tryz.prog 45 #[.agg #[.slice (some ⟨b, 0, none⟩) 1 cap], .complex .f64 0 0] w fun e w' => e = .returned (.tuple #[.complex .f64 0 0, .int .i64 0]) ∧ Kp0 w w' := by
  go_enter Tryz.func45, Tryz.ntmps45
  go_wp2_with (go_at_call 74; (with_reducible refine Calls.mono (hPotOver (b := b) (cap := cap)) ?_); rintro e wc ⟨rfl, _⟩)
  go_ret2
  exact ⟨rfl, ⟨Gr.out⟩⟩
set_option synthInstance.maxHeartbeats 2000000 in
set_option synthInstance.maxSize 100000 in
set_option maxRecDepth 100000 in
set_option maxHeartbeats 16000000 in
theorem hSpdFlow {w : World} {b cap : Nat} [hb : FsC w b (4611686018427387904, 4607182418800017408)] : Calls Tryz.prog 46 #[.agg #[.slice (some ⟨b, 0, none⟩) 1 cap], .complex .f64 0 0] w fun e w' => e = .returned (.tuple #[.complex .f64 4611686018427387904 4607182418800017408, .int .i64 0]) ∧ Kp0 w w' := by
  go_enter Tryz.func46, Tryz.ntmps46
  go_wp2_with (go_at_call 74; (with_reducible refine Calls.mono (hSpdOver (b := b) (cap := cap)) ?_); rintro e wc ⟨rfl, _⟩)
  go_ret2
  exact ⟨rfl, ⟨Gr.out⟩⟩
set_option synthInstance.maxHeartbeats 2000000 in
set_option synthInstance.maxSize 100000 in
set_option maxRecDepth 100000 in
set_option maxHeartbeats 16000000 in
theorem hAt {w : World} {h m n : Nat} {nm : ByteArray} {D : DataW Unit} {F : List UInt8 → Option (Nat × Nat)} (hsz : Hid (nm.size ≤ 70000)) (hfit : Hid (fitL nm.data.toList = true)) [hh : BkC w h [.bool true, .int .i32 0, .int .u32 0, .map (some m)] 51] (hm : Mp w m n D F) (hF : Hid (F nm.data.toList = some (4611686018427387904, 4607182418800017408))) : Calls Tryz.prog 18 #[.pointer (some ⟨h, 0, none⟩), .string nm, .complex .f64 0 0] w fun e w' => e = .returned (.tuple #[.complex .f64 0 0, .complex .f64 4611686018427387904 4607182418800017408, .int .i64 0]) ∧ Kp0 w w' := by
  go_enter Tryz.func18, Tryz.ntmps18
  go_wp2_with (first | (go_at_call 23; (with_reducible refine Calls.mono (hgetS hsz hfit hm hF) ?_); rintro e wc ⟨g1, cap1, rfl, _, _, _⟩) | (go_at_call 45; (with_reducible refine Calls.mono (hPotFlow) ?_); rintro e wc ⟨rfl, _⟩) | (go_at_call 46; (with_reducible refine Calls.mono (hSpdFlow) ?_); rintro e wc ⟨rfl, _⟩))
  go_ret3
  exact ⟨rfl, ⟨Gr.out⟩⟩
end
section
open Go.RowKit
open Go.Sort Go.Maps Go.ChangeMaps
theorem hSaveB {w : World} {h m n : Nat} {D : DataW Unit} {F : List UInt8 → Option (Nat × Nat)} [hh : BkC w h [.bool true, .int .i32 0, .int .u32 0, .map (some m)] 51] (hm : Mp w m n D F) (hn : n < 1000000) (hk : strKeys D = [wingB.data.toList]) (hF : F wingB.data.toList = some (4611686018427387904, 4607182418800017408)) (V : Vars w) (h10 : 10 ≤ w.heap.size) : Calls Tryz.prog 11 #[.pointer (some ⟨h, 0, none⟩)] w fun e w' => e = .returned (.tuple #[.string houB, .int .i64 0]) ∧ Kp0 w w' := hSave hm hn hk hF V h10
def Fw (q : List UInt8) : Option (Nat × Nat) := if q = (⟨#[119, 105, 110, 103]⟩ : ByteArray).data.toList then some (4611686018427387904, 4607182418800017408) else (fun _ => none) q
theorem Fw_wing : Hid (Fw (⟨#[119, 105, 110, 103]⟩ : ByteArray).data.toList = some (4611686018427387904, 4607182418800017408)) := hid (if_pos rfl)
theorem keys_wing (b : Nat) : strKeys ((DataW.map [] : DataW Unit).put (.string wingB.data.toList) (.lit (.int .i64 (b : Nat)))) = [wingB.data.toList] := by
  simp [DataW.put, DataW.insert, strKeys, strOf]
theorem wing_size : Hid ((⟨#[119, 105, 110, 103]⟩ : ByteArray).size ≤ 70000) := hid (by decide +kernel)
theorem wing_fit : Hid (fitL (⟨#[119, 105, 110, 103]⟩ : ByteArray).data.toList = true) := hid (by decide +kernel)
set_option synthInstance.maxHeartbeats 2000000 in
set_option synthInstance.maxSize 100000 in
set_option maxRecDepth 100000 in
set_option maxHeartbeats 16000000 in
theorem hAlive {w : World} (V : Vars w) (h10 : 10 ≤ w.heap.size) : Calls Tryz.prog 5 #[] w fun e w' => e = .returned (.bool true) ∧ Kp0 w w' := by
  have VW := hid (fun (W : World) (hg : Below w.heap.size w W) => V.keep (Keeps.of_below (S := []) hg) h10 (by simp))
  have H10 := hid h10
  haveI hok := okS21
  have hsz := houB_size
  have o1 : (FloatKind.f64.format.order 4611686018427387904 4611686018427387904 == some Ordering.eq) = true := by kernel_rfl
  have o2 : (FloatKind.f64.format.order 4607182418800017408 4607182418800017408 == some Ordering.eq) = true := by kernel_rfl
  clear V h10
  go_enter Tryz.func5, Tryz.ntmps5
  go_wp2_with (first | (go_at_call 6; (with_reducible refine Calls.mono hNew ?_); rintro e wn ⟨rfl, rfl⟩) | (go_at_call 7; (with_reducible refine Calls.mono lwStream ?_); rintro e ws ⟨g1, rfl, hs1, hs2, hs3⟩) | (go_at_call 8; (with_reducible refine Calls.mono (hPut (h := w.heap.size + 1) (m := w.heap.size) (s := (4611686018427387904, 4607182418800017408)) (nm := ⟨#[119, 105, 110, 103]⟩) (by decide +kernel) (by decide +kernel) (((mp_made w).below ((Below.refl _ _).alloc (Nat.le_refl _) _)).below hs2.out) (by decide) (.inr (by decide))) ?_); rintro e wp ⟨rfl, b1, hp1, hp2, hp3⟩; have HP : Hid (Mp wp w.heap.size 1 ((DataW.map [] : DataW Unit).put (.string wingB.data.toList) (.lit (.int .i64 (b1 : Nat)))) Fw) := hid hp2; clear hp2) | (go_at_call 9; (with_reducible refine Calls.mono (hGetS (h := w.heap.size + 1) (nm := ⟨#[119, 105, 110, 103]⟩) wing_size wing_fit HP.out Fw_wing) ?_); rintro e wg ⟨g2, cap2, rfl, hg1, hg2, hg3⟩) | (go_at_call 18; (with_reducible refine Calls.mono (hAt (h := w.heap.size + 1) (nm := ⟨#[119, 105, 110, 103]⟩) wing_size wing_fit (HP.out.below (Gr.out (v := wp) (W := wg.alloc (.cells #[.slice (some ⟨g2, 0, none⟩) 1 cap2] 29)))) Fw_wing) ?_); rintro e wt ⟨rfl, ht1⟩) | (go_at_call 11; have q4 := hSaveB (w := wt) (h := w.heap.size + 1) (HP.out.below (Gr.out (v := wp) (W := wt))) (by decide) (keys_wing b1) Fw_wing.out (VW.out wt Gr.out) (Nat.le_trans H10.out (Gr.out (v := w) (W := wt)).size); (with_reducible refine Calls.mono q4 ?_); clear q4; rintro e wv ⟨rfl, hv1⟩) | (go_at_call 14; (with_reducible refine Calls.mono (hLoad (h := wv.heap.size + 1) (m := wv.heap.size) (VW.out _ Gr.out) (Nat.le_trans H10.out (Gr.out (v := w) (W := (wv.alloc (.map #[] 0)).alloc (.cells #[.bool true, .int .i32 0, .int .u32 0, .map (some wv.heap.size)] 51))).size)) ?_); rintro e wl ⟨rfl, m2, b2, F2, hl1, hl2, hl3⟩) | (go_at_call 10; (with_reducible refine Calls.mono (hNames (h := wv.heap.size + 1) hl2 (by decide)) ?_); rintro e wN ⟨vN, ss, Bn, rfl, hn1, hn2, hn3⟩; obtain ⟨gn, capn, rfl, -, -⟩ := one_name (nm := wingB) hn1 (keys_wing b2) hn2))
  go_ret
  exact ⟨rfl, ⟨Gr.out⟩⟩
end
end Go.Proofs.YtmjpfoninpbgiaaGreatDoor
