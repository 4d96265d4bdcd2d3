/- The law 'FnNetworkText', walked. -/
import Derived.Test.YtlgjddgajdjllaaGreatDoorTPNetI
import Derived.Test.YtlgjddgajdjllaaGreatDoorTNetsE
set_option linter.unusedSimpArgs false
set_option linter.unusedVariables false
namespace Go.Proofs.YtlgjddgajdjllaaGreatDoor
open Go.RowKit
open Go.Lib
theorem dimAt_map {dm : Int → Int} : ∀ {L : List Int} {x : Int}, x ∈ L → dimAt L (L.map dm) x = dm x
  | [], _, h => by cases h
  | l :: L, x, h => by
    rw [List.map_cons, dimAt]
    by_cases e : l = x
    · rw [if_pos e, e]
    · rw [if_neg e]
      exact dimAt_map ((List.mem_cons.1 h).resolve_left fun q => e q.symm)
theorem dimF_map {dm : Int → Int} : ∀ {T : List Ten3}, (∀ t ∈ T, t.2.1 = t.1.map dm) → ∀ {x : Int}, x ∈ occ3 T → dimF T x = dm x
  | [], _, _, h => by simp [occ3] at h
  | t :: T, hT, x, h => by
    rw [dimF]
    by_cases e : hasL t.1 x = true
    · rw [if_pos e, hT t (by simp)]; exact dimAt_map ((hasL_iff _ _).1 e)
    · rw [if_neg e]
      rw [occ3_cons, List.mem_append] at h
      exact dimF_map (fun s hs => hT s (by simp [hs])) (h.resolve_left fun e2 => e ((hasL_iff _ _).2 e2))
theorem isN_good {k p n : Int} (hr : ringOk k p n = true) {dm : Int → Int} {U : List Int} {ts : List (NT k p n)} {op : List Int} (hN : IsN k p n dm U ts op) :
    (∀ t ∈ ts.map (tenOf dm), tensOk k p n t.1 t.2.1 t.2.2 = true) ∧ (ts.map (tenOf dm)).length ≤ 12 ∧ netB (ts.map (tenOf dm)) op = true := by
  have hd : ∀ t ∈ ts.map (tenOf dm), t.2.1 = t.1.map dm := fun t ht => by
    obtain ⟨a, _, rfl⟩ := List.mem_map.1 ht
    rfl
  refine ⟨fun t ht => ?_, by rw [List.length_map]; exact hN.len, ?_⟩
  · obtain ⟨a, ha, rfl⟩ := List.mem_map.1 ht
    exact (hN.ten a ha).yes hr
  · have ho : ∀ x, x ∈ occ3 (ts.map (tenOf dm)) → dimF (ts.map (tenOf dm)) x = dm x := fun x hx => dimF_map hd hx
    unfold netB
    rw [Bool.and_eq_true]
    constructor
    · refine List.all_eq_true.2 fun t ht => ?_
      rw [beq_iff_eq, hd t ht]
      exact List.map_congr_left fun x hx => (ho x (List.mem_flatMap.2 ⟨t, ht, hx⟩)).symm
    · have e : op.map (dimF (ts.map (tenOf dm))) = op.map dm := List.map_congr_left fun x hx => ho x (by
        obtain ⟨t, ht, hxt⟩ := mem_occ.1 (hN.occ x hx)
        exact List.mem_flatMap.2 ⟨_, List.mem_map_of_mem ht, hxt⟩)
      have ha := tsize_iff.2 (hN.uni.ax hN.sub)
      unfold openB
      rw [e]
      simpa using ha
set_option maxRecDepth 100000 in
set_option maxHeartbeats 8000000 in
theorem walkFnNetworkText (v : Value) (l : List Int) (w : World) (hAV : AllV w) (hl : ByteS w v l) (hall : ∀ x ∈ l, 0 ≤ x ∧ x ≤ 255) :
 Calls Tryz.prog 3 #[v] w fun e w' => e = .returned (.bool true) ∧ Ext w w' := by
 obtain ⟨ca, cap, rfl, hc1, hc2⟩ := hl.val
 by_cases big : 1048576 < l.length
 · go_enter Tryz.func3, Tryz.ntmps3
   go_wp2
   go_ret
   exact ⟨rfl, (by repeat' (first | (with_reducible first | exact Ext.refl _ | assumption | apply Ext.alloc | apply Ext.drew | apply Ext.drewN) | (refine Ext.setAt ?_ (by omega) _ _) | (refine Ext.trans ?_ (by assumption))))⟩
 have hC : Code w (.slice ca l.length cap) l := ⟨hl, hall, by omega⟩
 clear hall hl
 have hH : Held w w [] := Held.new (Ext.refl w) 0
 go_enter Tryz.func3, Tryz.ntmps3
 go_wp2_with fail
 refine (makeRing_any _ l 0 _ (hC.ext hH.ext) (by omega)).mono ?_; rintro ewn1 wn1 ⟨k, p, n, rfl, hd, hwn1⟩
 have HR := Lib.hid (drawn_ok hd); clear hd
 replace hH : Held w wn1 [] := hH.grow hwn1
 clear hwn1
 go_wp2_with fail
 have hB : Held w (wn1.alloc (.cells #[.int .i64 k, .int .i64 p, .int .i64 n] 24)) [aB (wn1.heap.size) 24 [.int .i64 k, .int .i64 p, .int .i64 n]] := by
  have h := (hH.mores 1).addB 0 #[.int .i64 k, .int .i64 p, .int .i64 n] 24
  exact h
 have hsz : (wn1.alloc (.cells #[.int .i64 k, .int .i64 p, .int .i64 n] 24)).heap.size = wn1.heap.size + 1 := by simp
 generalize wn1.alloc (.cells #[.int .i64 k, .int .i64 p, .int .i64 n] 24) = wn2 at hB hsz ⊢
 replace hH := hB; have HSZwn2 := Lib.hid hsz; clear hB hsz
 obtain ⟨q0_0, q0_1, q0_2, l0_⟩ := hH.c3 0 rfl
 go_wp2_with fail
 clear q0_0 q0_1 q0_2 l0_
 refine (makeNetwork_any _ l 10 k p n 4 HR.out (by omega) (by omega) _ (hC.ext hH.ext) (by omega)).mono ?_; rintro ewN wN ⟨tv, ov, cs, ts, op, rfl, hJ, hN, hmost⟩
 have E0 : Ext w wN := hH.ext.trans hJ.ext
 have hT : TensS wN tv (ts.map (tenOf dimOf)) := hJ.tensS (k := 0) rfl
 have hO : IntS wN ov op := hJ.ints (k := 1) rfl
 have hCN := hC.ext E0
 obtain ⟨m, hm⟩ : ∃ m, ts.length = m := ⟨_, rfl⟩
 obtain ⟨aV, cV, rfl, hcT1, hcT2⟩ := hT.val
 obtain ⟨aO, cO, rfl, hcO1, hcO2⟩ := hO.val
 have hT0 : TensS wN (.slice aV m cV) (ts.map (tenOf dimOf)) := by rw [List.length_map, hm] at hT; exact hT
 rw [List.length_map, hm] at hT hcT1
 rw [List.length_map, hm]
 have hm12 : m ≤ 4 := by rw [← hm]; omega
 have hop12 : op.length ≤ 12 := hN.rank
 have HM := Lib.hid hm; have HN := Lib.hid hN; have HD3 := Lib.hid hN.dims3; clear hm hN hmost hJ hC
 have hTl : Hid ((ts.map (tenOf dimOf)).length = m) := Lib.hid (by rw [List.length_map]; exact HM.out)
 clear hH
 have hC := hCN; clear hCN
 have hH : Held wN wN [] := Held.new (Ext.refl _) 0
 go_wp2_with fail
 have hB : Held wN (wN.alloc (.cells #[.int .i64 k, .int .i64 p, .int .i64 n, .slice aV m cV, .slice aO op.length cO] 29)) [aB (wN.heap.size) 29 [.int .i64 k, .int .i64 p, .int .i64 n, .slice aV m cV, .slice aO op.length cO]] := by
  have h := (hH.mores 1).addB 0 #[.int .i64 k, .int .i64 p, .int .i64 n, .slice aV m cV, .slice aO op.length cO] 29
  exact h
 have hsz : (wN.alloc (.cells #[.int .i64 k, .int .i64 p, .int .i64 n, .slice aV m cV, .slice aO op.length cO] 29)).heap.size = wN.heap.size + 1 := by simp
 generalize wN.alloc (.cells #[.int .i64 k, .int .i64 p, .int .i64 n, .slice aV m cV, .slice aO op.length cO] 29) = wn3 at hB hsz ⊢
 replace hH := hB; have HSZwn3 := Lib.hid hsz; clear hB hsz
 have HAV := Lib.hid (hAV.ext E0)
 obtain ⟨hk0, ht0, hb0⟩ := isN_good HR.out HN.out
 obtain ⟨T, hTT⟩ : ∃ T, ts.map (tenOf dimOf) = T := ⟨_, rfl⟩
 rw [hTT] at hT0 hk0 ht0 hb0
 have HK := Lib.hid hk0; have HT12 := Lib.hid ht0; have HNB := Lib.hid hb0
 obtain ⟨y, hy⟩ : ∃ y, mkS (fnAll k p n op T) = y := ⟨_, rfl⟩
 have HYY : Hid (y.data.toList = fmtNetB k p n op T) := Lib.hid (by rw [← hy, mkS_list, fnAll, hb0]; rfl)
 have hys : y.size ≤ 6262529 := by
  have h := fnT_len HR.out (netB_i64 hb0) hop12 hk0 ht0 T.length
  rw [List.take_length, fnT_all, ← HYY.out] at h
  rw [← slen]; exact h
 have HYE := Lib.hid hy
 have HNP : Hid (NP y.data.toList k p n op T true) := Lib.hid ⟨.inl ⟨rfl, HR.out, hk0, ht0, hb0, HYY.out.symm⟩⟩
 obtain ⟨z, hz⟩ : ∃ z, y ++ (⟨#[111, 112, 101, 110, 10]⟩ : ByteArray) = z := ⟨_, rfl⟩
 have hzz : z.data.toList = y.data.toList ++ (openT ++ [10]) := by rw [← hz, append_bytes]; rfl
 have hzs : z.size ≤ 6262534 := by
  have h := congrArg List.length hzz
  rw [List.length_append, slen, slen] at h
  have e : (openT ++ [10]).length = 5 := rfl
  omega
 have HNN : Hid (NP z.data.toList 0 0 0 [] [] false) := Lib.hid (by rw [hzz, HYY.out]; exact NP.none (NP.more HR.out))
 have hns : ¬ 9223372036854775807 < y.size + 5 := by omega
 clear hTT hk0 ht0 hb0 hy hzz
 obtain ⟨q0_0, q0_1, q0_2, q0_3, q0_4, l0_⟩ := hH.c5 0 rfl
 go_wp2_with fail
 clear q0_0 q0_1 q0_2 q0_3 q0_4 l0_
 refine (formatNetwork_impl HR.out HK.out HT12.out (by omega) _ _ _ (hT0.ext hH.ext) (hO.ext hH.ext) (HAV.out.errs.tab.ext hH.ext)).mono ?_; rintro ewn4 wn4 ⟨rfl, hwn4⟩
 rw [HYE.out]
 replace hH : Held wN wn4 [aB (wN.heap.size) 29 [.int .i64 k, .int .i64 p, .int .i64 n, .slice aV m cV, .slice aO op.length cO]] := hH.grow hwn4
 clear hwn4
 obtain ⟨q0_0, q0_1, q0_2, q0_3, q0_4, l0_⟩ := hH.c5 0 rfl
 go_wp2_with fail
 clear q0_0 q0_1 q0_2 q0_3 q0_4 l0_
 refine (parseNetwork_impl y _ (by omega) (HAV.out.ext hH.ext)).mono ?_; rintro ewn5 wn5 ⟨⟨k', p', n', tv, ov, cs1, O', T', b', rfl, hnp, hJ, hap⟩⟩
 obtain ⟨rfl, rfl, rfl, rfl, rfl, rfl⟩ := HNP.out.one hnp
 clear hnp hap
 obtain ⟨aP1, cP1, rfl, _, _⟩ := (hJ.ints (k := 0) rfl).val
 obtain ⟨aK1, cK1, rfl, _, _⟩ := (hJ.tensS (k := 1) rfl).val
 replace hH : Held wN wn5 [aB (wN.heap.size) 29 [.int .i64 k, .int .i64 p, .int .i64 n, .slice aV m cV, .slice aO op.length cO], aI (.slice aP1 op.length cP1) op, aTs (.slice aK1 T.length cK1) cs1 T] := hH.join hJ (fun q hq => by cases hq)
 clear hJ
 obtain ⟨q0_0, q0_1, q0_2, q0_3, q0_4, l0_⟩ := hH.c5 0 rfl
 go_upto_region 6 with fail
 clear q0_0 q0_1 q0_2 q0_3 q0_4 l0_
 have hB : Held wN (wn5.alloc (.cells #[.int .i64 k, .int .i64 p, .int .i64 n, .slice aK1 T.length cK1, .slice aP1 op.length cP1] 29)) [aB (wN.heap.size) 29 [.int .i64 k, .int .i64 p, .int .i64 n, .slice aV m cV, .slice aO op.length cO], aI (.slice aP1 op.length cP1) op, aTs (.slice aK1 T.length cK1) cs1 T, aB (wn5.heap.size) 29 [.int .i64 k, .int .i64 p, .int .i64 n, .slice aK1 T.length cK1, .slice aP1 op.length cP1]] := by
  have h := (hH.mores 1).addB 3 #[.int .i64 k, .int .i64 p, .int .i64 n, .slice aK1 T.length cK1, .slice aP1 op.length cP1] 29
  exact h
 have hsz : (wn5.alloc (.cells #[.int .i64 k, .int .i64 p, .int .i64 n, .slice aK1 T.length cK1, .slice aP1 op.length cP1] 29)).heap.size = wn5.heap.size + 1 := by simp
 generalize wn5.alloc (.cells #[.int .i64 k, .int .i64 p, .int .i64 n, .slice aK1 T.length cK1, .slice aP1 op.length cP1] 29) = wn6 at hB hsz ⊢
 replace hH := hB; have HSZwn6 := Lib.hid hsz; clear hB hsz
 obtain ⟨wa, rfl⟩ : ∃ q, q = wn6 := ⟨wn6, rfl⟩
 obtain ⟨q0_0, q0_1, q0_2, q0_3, q0_4, l0_⟩ := hH.c5 0 rfl; obtain ⟨q3_0, q3_1, q3_2, q3_3, q3_4, l3_⟩ := hH.c5 3 rfl
 go_wp2_with fail
 clear q0_0 q0_1 q0_2 q0_3 q0_4 l0_ q3_0 q3_1 q3_2 q3_3 q3_4 l3_
 refine (formatNetwork_impl HR.out HK.out HT12.out (by omega) _ _ _ (hT0.ext hH.ext) (hO.ext hH.ext) (HAV.out.errs.tab.ext hH.ext)).mono ?_; rintro ewn7 wn7 ⟨rfl, hwn7⟩
 rw [HYE.out]
 replace hH : Held wN wn7 [aB (wN.heap.size) 29 [.int .i64 k, .int .i64 p, .int .i64 n, .slice aV m cV, .slice aO op.length cO], aI (.slice aP1 op.length cP1) op, aTs (.slice aK1 T.length cK1) cs1 T, aB (wn5.heap.size) 29 [.int .i64 k, .int .i64 p, .int .i64 n, .slice aK1 T.length cK1, .slice aP1 op.length cP1]] := hH.grow hwn7
 clear hwn7
 obtain ⟨q0_0, q0_1, q0_2, q0_3, q0_4, l0_⟩ := hH.c5 0 rfl; obtain ⟨q3_0, q3_1, q3_2, q3_3, q3_4, l3_⟩ := hH.c5 3 rfl
 go_wp2_with fail
 clear q0_0 q0_1 q0_2 q0_3 q0_4 l0_ q3_0 q3_1 q3_2 q3_3 q3_4 l3_
 clear hz
 refine (parseNetwork_impl z _ (by omega) (HAV.out.ext hH.ext)).mono ?_; rintro ewn8 wn8 ⟨⟨k', p', n', tv, ov, cs2, O', T', b', rfl, hnp, hJ, hap⟩⟩
 obtain ⟨rfl, rfl, rfl, rfl, rfl, rfl⟩ := HNN.out.one hnp
 clear hnp hap
 obtain ⟨aP2, cP2, hv2, _, _⟩ := (hJ.ints (k := 0) rfl).val
 rw [List.length_nil] at hv2
 subst hv2
 obtain ⟨aK2, cK2, hv2, _, _⟩ := (hJ.tensS (k := 1) rfl).val
 rw [List.length_nil] at hv2
 subst hv2
 replace hH : Held wN wn8 [aB (wN.heap.size) 29 [.int .i64 k, .int .i64 p, .int .i64 n, .slice aV m cV, .slice aO op.length cO], aI (.slice aP1 op.length cP1) op, aTs (.slice aK1 T.length cK1) cs1 T, aB (wn5.heap.size) 29 [.int .i64 k, .int .i64 p, .int .i64 n, .slice aK1 T.length cK1, .slice aP1 op.length cP1], aI (.slice aP2 0 cP2) [], aTs (.slice aK2 0 cK2) cs2 []] := hH.join hJ (fun q hq => by cases hq)
 clear hJ
 obtain ⟨q0_0, q0_1, q0_2, q0_3, q0_4, l0_⟩ := hH.c5 0 rfl; obtain ⟨q3_0, q3_1, q3_2, q3_3, q3_4, l3_⟩ := hH.c5 3 rfl
 go_upto_region 7 with fail
 clear q0_0 q0_1 q0_2 q0_3 q0_4 l0_ q3_0 q3_1 q3_2 q3_3 q3_4 l3_
 have hB : Held wN (wn8.alloc (.cells #[.int .i64 0, .int .i64 0, .int .i64 0, .slice aK2 0 cK2, .slice aP2 0 cP2] 29)) [aB (wN.heap.size) 29 [.int .i64 k, .int .i64 p, .int .i64 n, .slice aV m cV, .slice aO op.length cO], aI (.slice aP1 op.length cP1) op, aTs (.slice aK1 T.length cK1) cs1 T, aB (wn5.heap.size) 29 [.int .i64 k, .int .i64 p, .int .i64 n, .slice aK1 T.length cK1, .slice aP1 op.length cP1], aI (.slice aP2 0 cP2) [], aTs (.slice aK2 0 cK2) cs2 [], aB (wn8.heap.size) 29 [.int .i64 0, .int .i64 0, .int .i64 0, .slice aK2 0 cK2, .slice aP2 0 cP2]] := by
  have h := (hH.mores 1).addB 6 #[.int .i64 0, .int .i64 0, .int .i64 0, .slice aK2 0 cK2, .slice aP2 0 cP2] 29
  exact h
 have hsz : (wn8.alloc (.cells #[.int .i64 0, .int .i64 0, .int .i64 0, .slice aK2 0 cK2, .slice aP2 0 cP2] 29)).heap.size = wn8.heap.size + 1 := by simp
 generalize wn8.alloc (.cells #[.int .i64 0, .int .i64 0, .int .i64 0, .slice aK2 0 cK2, .slice aP2 0 cP2] 29) = wn9 at hB hsz ⊢
 replace hH := hB; have HSZwn9 := Lib.hid hsz; clear hB hsz
 obtain ⟨wb, rfl⟩ : ∃ q, q = wn9 := ⟨wn9, rfl⟩
 obtain ⟨q0_0, q0_1, q0_2, q0_3, q0_4, l0_⟩ := hH.c5 0 rfl; obtain ⟨q3_0, q3_1, q3_2, q3_3, q3_4, l3_⟩ := hH.c5 3 rfl; obtain ⟨q6_0, q6_1, q6_2, q6_3, q6_4, l6_⟩ := hH.c5 6 rfl
 go_wp2_with fail
 clear q0_0 q0_1 q0_2 q0_3 q0_4 l0_ q3_0 q3_1 q3_2 q3_3 q3_4 l3_ q6_0 q6_1 q6_2 q6_3 q6_4 l6_
 refine (nets_same k p n T op _ _ _ _ _ (hT0.ext hH.ext) (hO.ext hH.ext) (hH.tensS (k := 2) rfl) (hH.ints (k := 1) rfl)).mono ?_; rintro ewn10 wn10 ⟨rfl, hwn10⟩
 replace hH : Held wN wn10 [aB (wN.heap.size) 29 [.int .i64 k, .int .i64 p, .int .i64 n, .slice aV m cV, .slice aO op.length cO], aI (.slice aP1 op.length cP1) op, aTs (.slice aK1 T.length cK1) cs1 T, aB (wn5.heap.size) 29 [.int .i64 k, .int .i64 p, .int .i64 n, .slice aK1 T.length cK1, .slice aP1 op.length cP1], aI (.slice aP2 0 cP2) [], aTs (.slice aK2 0 cK2) cs2 [], aB (wn8.heap.size) 29 [.int .i64 0, .int .i64 0, .int .i64 0, .slice aK2 0 cK2, .slice aP2 0 cP2]] := hH.grow hwn10
 clear hwn10
 obtain ⟨q0_0, q0_1, q0_2, q0_3, q0_4, l0_⟩ := hH.c5 0 rfl; obtain ⟨q3_0, q3_1, q3_2, q3_3, q3_4, l3_⟩ := hH.c5 3 rfl; obtain ⟨q6_0, q6_1, q6_2, q6_3, q6_4, l6_⟩ := hH.c5 6 rfl
 go_wp2_with fail
 clear q0_0 q0_1 q0_2 q0_3 q0_4 l0_ q3_0 q3_1 q3_2 q3_3 q3_4 l3_ q6_0 q6_1 q6_2 q6_3 q6_4 l6_
 refine (networkOk_gen HR.out HK.out HT12.out _ _ _ (hT0.ext hH.ext) (hO.ext hH.ext)).mono ?_; rintro ewn11 wn11 ⟨rfl, hwn11⟩
 rw [HNB.out]
 replace hH : Held wN wn11 [aB (wN.heap.size) 29 [.int .i64 k, .int .i64 p, .int .i64 n, .slice aV m cV, .slice aO op.length cO], aI (.slice aP1 op.length cP1) op, aTs (.slice aK1 T.length cK1) cs1 T, aB (wn5.heap.size) 29 [.int .i64 k, .int .i64 p, .int .i64 n, .slice aK1 T.length cK1, .slice aP1 op.length cP1], aI (.slice aP2 0 cP2) [], aTs (.slice aK2 0 cK2) cs2 [], aB (wn8.heap.size) 29 [.int .i64 0, .int .i64 0, .int .i64 0, .slice aK2 0 cK2, .slice aP2 0 cP2]] := hH.grow hwn11
 clear hwn11
 have HE := Lib.hid (E0.trans hH.ext); clear hH
 go_wp2
 go_ret
 exact ⟨rfl, HE.out⟩
end Go.Proofs.YtlgjddgajdjllaaGreatDoor
