/- The law 'FnBestOrder', walked. -/
import Derived.Test.YtpegckmagiaggaaTBestD
import Derived.Test.YtpegckmagiaggaaTRandW
import Derived.Test.YtpegckmagiaggaaTOrdMM
import Derived.Test.YtpegckmagiaggaaTDrawS
set_option linter.unusedSimpArgs false
set_option linter.unusedVariables false
namespace Go.Proofs.Ytpegckmagiaggaa
open Go.RowKit
theorem LeastZ.uniq {k p n : Int} {hr : ringOk k p n = true} {dm : Int → Int} {ts : List (NT k p n)} {op : List Int} {z z' : Int} (h : LeastZ hr dm ts op z) (h' : LeastZ hr dm ts op z') : z = z' := by
  obtain ⟨os, a, b, c⟩ := h.hit
  obtain ⟨os', a', b', c'⟩ := h'.hit
  have h1 := h.low os' a' b'
  have h2 := h'.low os a b
  omega
set_option maxRecDepth 100000 in
set_option maxHeartbeats 8000000 in
theorem walkFnBestOrder (v : Value) (l : List Int) (w : World) (hl : ByteS w v l) (hall : ∀ x ∈ l, 0 ≤ x ∧ x ≤ 255) :
 Calls Try.prog 12 #[v] w fun e w' => e = .returned (.bool true) ∧ Ext w w' := by
 obtain ⟨ca, cap, rfl, hc1, hc2⟩ := hl.val
 by_cases big : 1048576 < l.length
 · go_enter Try.func12, Try.ntmps12
   go_wp2
   go_ret
   exact ⟨rfl, (by repeat' (first | (with_reducible exact Ext.refl _) | (with_reducible assumption) | (with_reducible apply Ext.alloc) | (with_reducible apply Ext.drew) | (with_reducible apply Ext.drewN) | (refine Ext.setAt ?_ (by omega) _ _) | (refine Ext.trans ?_ (by assumption))))⟩
 have hC : Code w (.slice ca l.length cap) l := ⟨hl, hall, by omega⟩
 clear hall hl
 have hH : Held w w [] := Held.new (Ext.refl w) 0
 go_enter Try.func12, Try.ntmps12
 go_wp2_with fail
 refine (makeRing_any _ l 0 _ (hC.ext hH.ext) (by omega)).mono ?_; rintro ewn1 wn1 ⟨k, p, n, rfl, hd, hwn1⟩
 have HR := Lib.hid (drawn_ok hd); clear hd
 replace hH : Held w wn1 [] := hH.grow hwn1
 clear hwn1
 go_wp2_with fail
 have hB : Held w (wn1.alloc (.cells #[.int .i64 k, .int .i64 p, .int .i64 n] 24)) [aB (wn1.heap.size) 24 [.int .i64 k, .int .i64 p, .int .i64 n]] := by
  have h := (hH.mores 1).addB 0 #[.int .i64 k, .int .i64 p, .int .i64 n] 24
  exact h
 have hsz : (wn1.alloc (.cells #[.int .i64 k, .int .i64 p, .int .i64 n] 24)).heap.size = wn1.heap.size + 1 := by simp
 generalize wn1.alloc (.cells #[.int .i64 k, .int .i64 p, .int .i64 n] 24) = wn2 at hB hsz ⊢
 replace hH := hB; have HSZwn2 := Lib.hid hsz; clear hB hsz
 have q0_0 := hH.cl 0 0 rfl rfl; have q0_1 := hH.cl 0 1 rfl rfl; have q0_2 := hH.cl 0 2 rfl rfl; have l0_ := hH.bl 0 rfl
 go_wp2_with fail
 clear q0_0 q0_1 q0_2 l0_
 refine (makeNetwork_any _ l 10 k p n 5 HR.out (by omega) (by omega) _ (hC.ext hH.ext) (by omega)).mono ?_; rintro ewN wN ⟨tv, ov, cs, ts, op, rfl, hJ, hN, hmost⟩
 have E0 : Ext w wN := hH.ext.trans hJ.ext
 have hT : TensS wN tv (ts.map (tenOf dimOf)) := hJ.tensS (k := 0) rfl
 have hO : IntS wN ov op := hJ.ints (k := 1) rfl
 have kr_0 := ((hH.grow hJ.ext).blk (k := 0) rfl).cell (j := 0) rfl
 have kr_1 := ((hH.grow hJ.ext).blk (k := 0) rfl).cell (j := 1) rfl
 have kr_2 := ((hH.grow hJ.ext).blk (k := 0) rfl).cell (j := 2) rfl
 have kr_l := ((hH.grow hJ.ext).blk (k := 0) rfl).lt
 have hCN := hC.ext E0
 obtain ⟨m, hm⟩ : ∃ m, ts.length = m := ⟨_, rfl⟩
 obtain ⟨aV, cV, rfl, hcT1, hcT2⟩ := hT.val
 obtain ⟨aO, cO, rfl, hcO1, hcO2⟩ := hO.val
 have hT0 : TensS wN (.slice aV m cV) (ts.map (tenOf dimOf)) := by rw [List.length_map, hm] at hT; exact hT
 rw [List.length_map, hm] at hT hcT1
 rw [List.length_map, hm]
 have hm12 : m ≤ 5 := by rw [← hm]; omega
 have hop12 : op.length ≤ 12 := hN.rank
 have HM := Lib.hid hm; have HN := Lib.hid hN; have HD3 := Lib.hid hN.dims3; clear hm hN hmost hJ hC
 have hTl : Hid ((ts.map (tenOf dimOf)).length = m) := Lib.hid (by rw [List.length_map]; exact HM.out)
 clear hH
 have hC := hCN; clear hCN
 have hH : Held wN wN [] := Held.new (Ext.refl _) 0
 have c_kr_0 := hH.ext.cell kr_0; have c_kr_1 := hH.ext.cell kr_1; have c_kr_2 := hH.ext.cell kr_2
 have c_kr_l := Nat.lt_of_lt_of_le kr_l hH.ext.size
 go_wp2_with fail
 clear c_kr_0 c_kr_1 c_kr_2 c_kr_l
 have hB : Held wN (wN.alloc (.cells #[.int .i64 k, .int .i64 p, .int .i64 n, .slice aV m cV, .slice aO op.length cO] 29)) [aB (wN.heap.size) 29 [.int .i64 k, .int .i64 p, .int .i64 n, .slice aV m cV, .slice aO op.length cO]] := by
  have h := (hH.mores 1).addB 0 #[.int .i64 k, .int .i64 p, .int .i64 n, .slice aV m cV, .slice aO op.length cO] 29
  exact h
 have hsz : (wN.alloc (.cells #[.int .i64 k, .int .i64 p, .int .i64 n, .slice aV m cV, .slice aO op.length cO] 29)).heap.size = wN.heap.size + 1 := by simp
 generalize wN.alloc (.cells #[.int .i64 k, .int .i64 p, .int .i64 n, .slice aV m cV, .slice aO op.length cO] 29) = wn3 at hB hsz ⊢
 replace hH := hB; have HSZwn3 := Lib.hid hsz; clear hB hsz
 have q0_0 := hH.cl 0 0 rfl rfl; have q0_1 := hH.cl 0 1 rfl rfl; have q0_2 := hH.cl 0 2 rfl rfl; have q0_3 := hH.cl 0 3 rfl rfl; have q0_4 := hH.cl 0 4 rfl rfl; have l0_ := hH.bl 0 rfl; have c_kr_0 := hH.ext.cell kr_0; have c_kr_1 := hH.ext.cell kr_1; have c_kr_2 := hH.ext.cell kr_2
 have c_kr_l := Nat.lt_of_lt_of_le kr_l hH.ext.size
 go_wp2_with fail
 clear q0_0 q0_1 q0_2 q0_3 q0_4 l0_ c_kr_0 c_kr_1 c_kr_2 c_kr_l
 refine (bestOrder_any HR.out HN.out _ _ _ (hT0.ext hH.ext) (hO.ext hH.ext) (by rw [HM.out]; omega)).mono ?_; rintro e1 w1 ⟨u1, rfl, hBR⟩
 obtain ⟨ox, hJ, hok, hol, zx, hLx, hcx⟩ := hBR.has
 have HOX := Lib.hid (And.intro hok hol)
 have HLX := Lib.hid hLx
 have HCX := Lib.hid hcx
 obtain ⟨a1, c1, rfl, _, _⟩ := (hJ.steps (k := 0) rfl).val
 replace hH := hH.join hJ (fun q hq => by cases hq)
 clear hJ hok hol hLx hcx hBR
 replace hH : Held wN w1 [aB (wN.heap.size) 29 [.int .i64 k, .int .i64 p, .int .i64 n, .slice aV m cV, .slice aO op.length cO], aSt (.slice a1 ox.length c1) ox] := hH
 have q0_0 := hH.cl 0 0 rfl rfl; have q0_1 := hH.cl 0 1 rfl rfl; have q0_2 := hH.cl 0 2 rfl rfl; have q0_3 := hH.cl 0 3 rfl rfl; have q0_4 := hH.cl 0 4 rfl rfl; have l0_ := hH.bl 0 rfl; have c_kr_0 := hH.ext.cell kr_0; have c_kr_1 := hH.ext.cell kr_1; have c_kr_2 := hH.ext.cell kr_2
 have c_kr_l := Nat.lt_of_lt_of_le kr_l hH.ext.size
 go_wp2_with fail
 clear q0_0 q0_1 q0_2 q0_3 q0_4 l0_ c_kr_0 c_kr_1 c_kr_2 c_kr_l
 refine (bestCost_any HR.out HN.out _ _ _ (hT0.ext hH.ext) (hO.ext hH.ext) (by rw [HM.out]; omega)).mono ?_; rintro ewn4 wn4 ⟨zl, rfl, hLZ, hwn4⟩
 have HLZ := Lib.hid hLZ
 have hzx := HLX.out.uniq hLZ
 subst hzx
 clear hLZ
 replace hH : Held wN wn4 [aB (wN.heap.size) 29 [.int .i64 k, .int .i64 p, .int .i64 n, .slice aV m cV, .slice aO op.length cO], aSt (.slice a1 ox.length c1) ox] := hH.grow hwn4
 clear hwn4
 obtain ⟨wy, rfl⟩ : ∃ q, q = wn4 := ⟨wn4, rfl⟩
 have HPO := Lib.hid (plain_ok (m := ts.length) (by rw [HM.out]; omega))
 have HPN := Lib.hid (plainT_len ts.length (ts.length - 1))
 obtain ⟨PO, hPO⟩ : ∃ q, plainT ts.length (ts.length - 1) = q := ⟨_, rfl⟩
 rw [hPO] at HPO HPN
 have HPE := Lib.hid hPO; clear hPO
 have q0_0 := hH.cl 0 0 rfl rfl; have q0_1 := hH.cl 0 1 rfl rfl; have q0_2 := hH.cl 0 2 rfl rfl; have q0_3 := hH.cl 0 3 rfl rfl; have q0_4 := hH.cl 0 4 rfl rfl; have l0_ := hH.bl 0 rfl; have c_kr_0 := hH.ext.cell kr_0; have c_kr_1 := hH.ext.cell kr_1; have c_kr_2 := hH.ext.cell kr_2
 have c_kr_l := Nat.lt_of_lt_of_le kr_l hH.ext.size
 go_upto_region 7 with fail
 clear q0_0 q0_1 q0_2 q0_3 q0_4 l0_ c_kr_0 c_kr_1 c_kr_2 c_kr_l
 replace hH := hH.mores 5
 replace hH : Held wN wy [aB (wN.heap.size) 29 [.int .i64 k, .int .i64 p, .int .i64 n, .slice aV m cV, .slice aO op.length cO], aSt (.slice a1 ox.length c1) ox, emp, emp, emp, emp, emp] := hH
 refine wp_region_steps ?Fa (fun b t wx => ∃ (oa : List (Int × Int)), ∃ (ob : List (Int × Int)), ∃ (oc : List (Int × Int)), ∃ (sd : Int), Held wN wx [aB (wN.heap.size) 29 [.int .i64 k, .int .i64 p, .int .i64 n, .slice aV m cV, .slice aO op.length cO], aSt (.slice a1 ox.length c1) ox, (bif b 2 then aSt (t 2) oa else emp), (bif b 4 then aSt (t 4) ob else emp), (bif b 6 then aSt (t 6) PO else emp), (bif b 10 then aSt (t 10) oc else emp), (bif b 12 then aB (blkS (t 12)) 72 [t 2, t 4, t 6, t 10, .slice a1 ox.length c1] else emp)] ∧ (b 2 = true → Hid (okO (numL ts.length) (ts.length : Int) oa ∧ oa.length = ts.length - 1)) ∧ (b 4 = true → Hid (okO (numL ts.length) (ts.length : Int) ob ∧ ob.length = ts.length - 1)) ∧ (b 10 = true → Hid (okO (numL ts.length) (ts.length : Int) oc ∧ oc.length = ts.length - 1)) ∧ (b 9 = true → (0 ≤ sd ∧ sd ≤ 65535)) ∧ (b 0 = true → t 0 = .slice ca l.length cap) ∧ (b 1 = true → t 1 = .agg #[.int .i64 k, .int .i64 p, .int .i64 n, .slice aV m cV, .slice aO op.length cO]) ∧ (b 2 = true → ∃ x c, t 2 = .slice x oa.length c) ∧ (b 3 = true → t 3 = .agg #[.int .i64 k, .int .i64 p, .int .i64 n, .slice aV m cV, .slice aO op.length cO]) ∧ (b 4 = true → ∃ x c, t 4 = .slice x ob.length c) ∧ (b 5 = true → t 5 = .agg #[.int .i64 k, .int .i64 p, .int .i64 n, .slice aV m cV, .slice aO op.length cO]) ∧ (b 6 = true → ∃ x c, t 6 = .slice x PO.length c) ∧ (b 7 = true → t 7 = .agg #[.int .i64 k, .int .i64 p, .int .i64 n, .slice aV m cV, .slice aO op.length cO]) ∧ (b 8 = true → t 8 = .slice ca l.length cap) ∧ (b 9 = true → t 9 = .int .i64 sd) ∧ (b 10 = true → ∃ x c, t 10 = .slice x oc.length c) ∧ (b 11 = true → t 11 = .slice a1 ox.length c1) ∧ (b 12 = true → ∃ z, t 12 = .slice (some ⟨z, 0, none⟩) 5 5) ∧ (b 13 = true → t 13 = t 12)) ?hFa (by kernel_rfl) (by kernel_rfl) ?hJa ?hSa ?hEa
 (case hFa => intro t; simp only [putAll, Act.put, List.setIfInBounds_toArray, List.set_cons_zero, List.set_cons_succ, Nat.reduceAdd, Nat.zero_add]; exact rfl)
 case hJa => exact ⟨[], [], [], 0, hH.grow ((Ext.refl _).drew), fun h => absurd h Bool.false_ne_true, fun h => absurd h Bool.false_ne_true, fun h => absurd h Bool.false_ne_true, fun h => absurd h Bool.false_ne_true, fun h => absurd h Bool.false_ne_true, fun h => absurd h Bool.false_ne_true, fun h => absurd h Bool.false_ne_true, fun h => absurd h Bool.false_ne_true, fun h => absurd h Bool.false_ne_true, fun h => absurd h Bool.false_ne_true, fun h => absurd h Bool.false_ne_true, fun h => absurd h Bool.false_ne_true, fun h => absurd h Bool.false_ne_true, fun h => absurd h Bool.false_ne_true, fun h => absurd h Bool.false_ne_true, fun h => absurd h Bool.false_ne_true, fun h => absurd h Bool.false_ne_true, fun h => absurd h Bool.false_ne_true⟩
 case hSa => as_aux_lemma =>
   refine AllSteps.cons (j := 1) rfl (fun b t wx hJ hb hd hcl Kc hK => ?_) ?_
   · obtain ⟨oa, ob, oc, sd, hH, hpa, hpb, hpc, hsd, v0, v1, v2, v3, v4, v5, v6, v7, v8, v9, v10, v11, v12, v13⟩ := hJ
     go_simp
     refine hK.out _ ?_ _ ?_ ?_; rotate_left 2
     · rfl
     exact ⟨oa, ob, oc, sd, hH, hpa, hpb, hpc, hsd, fun _ => rfl, v1, v2, v3, v4, v5, v6, v7, v8, v9, v10, v11, v12, v13⟩
   refine AllSteps.cons (j := 2) rfl (fun b t wx hJ hb hd hcl Kc hK => ?_) ?_
   · obtain ⟨oa, ob, oc, sd, hH, hpa, hpb, hpc, hsd, v0, v1, v2, v3, v4, v5, v6, v7, v8, v9, v10, v11, v12, v13⟩ := hJ
     have q0_0 := hH.cl 0 0 rfl rfl; have q0_1 := hH.cl 0 1 rfl rfl; have q0_2 := hH.cl 0 2 rfl rfl; have q0_3 := hH.cl 0 3 rfl rfl; have q0_4 := hH.cl 0 4 rfl rfl
     go_simp
     refine hK.out _ ?_ _ ?_ ?_; rotate_left 2
     · rfl
     exact ⟨oa, ob, oc, sd, hH, hpa, hpb, hpc, hsd, v0, fun _ => rfl, v2, v3, v4, v5, v6, v7, v8, v9, v10, v11, v12, v13⟩
   refine AllSteps.cons (j := 3) rfl (fun b t wx hJ hb hd hcl Kc hK => ?_) ?_
   · obtain ⟨oa, ob, oc, sd, hH, hpa, hpb, hpc, hsd, v0, v1, v2, v3, v4, v5, v6, v7, v8, v9, v10, v11, v12, v13⟩ := hJ
     have d0 := hd.out 0 (by kernel_rfl); have d1 := hd.out 1 (by kernel_rfl)
     have n12 : b 12 = false := Bool.eq_false_iff.2 fun h => absurd (hcl.out 12 2 (by kernel_rfl) (h)) (by rw [hb]; exact Bool.false_ne_true)
     have r0 := v0 d0; have r1 := v1 d1
     have hN := hH; (try simp only [hb, d0, d1, n12, cond_true, cond_false] at hN)
     go_simp
     go_at_call 51
     refine (makeOrder_any _ l 100 HR.out HN.out _ _ _ (hT0.ext hH.ext) (hO.ext hH.ext) (hC.ext hH.ext) (by omega)).mono ?_; rintro e2 w2 ⟨v2, oq, rfl, hJ2, hk2, hl2⟩
     obtain ⟨x2, c2, rfl, _, _⟩ := (hJ2.steps (k := 0) rfl).val
     have HK2 := Lib.hid (And.intro hk2 hl2); clear hk2 hl2
     (try go_simp)
     refine hK.out _ ?_ _ ?_ ?_; rotate_left 2
     · (try simp only [r0, r1]); rfl
     exact ⟨oq, ob, oc, sd, by have hX := hN.add 2 hJ2.ext (hJ2.get (k := 0) rfl) (fun b hb => (hJ2.fpr (k := 0) rfl b hb).1); simpa only [List.set_cons_zero, List.set_cons_succ, updB, updV, blkOf_mk, tup0_mk, partsOf3, blkS_mk, Nat.reduceBEq, cond_true, cond_false, hb, d0, d1, n12, r0, r1] using hX, (fun _ => HK2), hpb, hpc, hsd, v0, v1, fun _ => ⟨_, _, rfl⟩, v3, v4, v5, v6, v7, v8, v9, v10, v11, v12, v13⟩
   refine AllSteps.cons (j := 4) rfl (fun b t wx hJ hb hd hcl Kc hK => ?_) ?_
   · obtain ⟨oa, ob, oc, sd, hH, hpa, hpb, hpc, hsd, v0, v1, v2, v3, v4, v5, v6, v7, v8, v9, v10, v11, v12, v13⟩ := hJ
     have q0_0 := hH.cl 0 0 rfl rfl; have q0_1 := hH.cl 0 1 rfl rfl; have q0_2 := hH.cl 0 2 rfl rfl; have q0_3 := hH.cl 0 3 rfl rfl; have q0_4 := hH.cl 0 4 rfl rfl
     go_simp
     refine hK.out _ ?_ _ ?_ ?_; rotate_left 2
     · rfl
     exact ⟨oa, ob, oc, sd, hH, hpa, hpb, hpc, hsd, v0, v1, v2, fun _ => rfl, v4, v5, v6, v7, v8, v9, v10, v11, v12, v13⟩
   refine AllSteps.cons (j := 5) rfl (fun b t wx hJ hb hd hcl Kc hK => ?_) ?_
   · obtain ⟨oa, ob, oc, sd, hH, hpa, hpb, hpc, hsd, v0, v1, v2, v3, v4, v5, v6, v7, v8, v9, v10, v11, v12, v13⟩ := hJ
     have d2 := hd.out 2 (by kernel_rfl); have d3 := hd.out 3 (by kernel_rfl)
     have n12 : b 12 = false := Bool.eq_false_iff.2 fun h => absurd (hcl.out 12 4 (by kernel_rfl) (h)) (by rw [hb]; exact Bool.false_ne_true)
     have r2 := v2 d2; have r3 := v3 d3
     obtain ⟨x_2, c_2, r2⟩ := r2
     have hN := hH; (try simp only [hb, d2, d3, n12, cond_true, cond_false] at hN)
     go_simp
     go_at_call 71
     refine (greedyOrder_any HR.out HN.out _ _ _ (hT0.ext hH.ext) (hO.ext hH.ext)).mono ?_; rintro e4 w4 ⟨v4, oq, rfl, hJ4, hk4, hl4⟩
     obtain ⟨x4, c4, rfl, _, _⟩ := (hJ4.steps (k := 0) rfl).val
     have HK4 := Lib.hid (And.intro hk4 hl4); clear hk4 hl4
     (try go_simp)
     refine hK.out _ ?_ _ ?_ ?_; rotate_left 2
     · (try simp only [r2, r3]); rfl
     exact ⟨oa, oq, oc, sd, by have hX := hN.add 3 hJ4.ext (hJ4.get (k := 0) rfl) (fun b hb => (hJ4.fpr (k := 0) rfl b hb).1); simpa only [List.set_cons_zero, List.set_cons_succ, updB, updV, blkOf_mk, tup0_mk, partsOf3, blkS_mk, Nat.reduceBEq, cond_true, cond_false, hb, d2, d3, n12, r2, r3] using hX, hpa, (fun _ => HK4), hpc, hsd, v0, v1, v2, v3, fun _ => ⟨_, _, rfl⟩, v5, v6, v7, v8, v9, v10, v11, v12, v13⟩
   refine AllSteps.cons (j := 6) rfl (fun b t wx hJ hb hd hcl Kc hK => ?_) ?_
   · obtain ⟨oa, ob, oc, sd, hH, hpa, hpb, hpc, hsd, v0, v1, v2, v3, v4, v5, v6, v7, v8, v9, v10, v11, v12, v13⟩ := hJ
     have q0_0 := hH.cl 0 0 rfl rfl; have q0_1 := hH.cl 0 1 rfl rfl; have q0_2 := hH.cl 0 2 rfl rfl; have q0_3 := hH.cl 0 3 rfl rfl; have q0_4 := hH.cl 0 4 rfl rfl
     go_simp
     refine hK.out _ ?_ _ ?_ ?_; rotate_left 2
     · rfl
     exact ⟨oa, ob, oc, sd, hH, hpa, hpb, hpc, hsd, v0, v1, v2, v3, v4, fun _ => rfl, v6, v7, v8, v9, v10, v11, v12, v13⟩
   refine AllSteps.cons (j := 7) rfl (fun b t wx hJ hb hd hcl Kc hK => ?_) ?_
   · obtain ⟨oa, ob, oc, sd, hH, hpa, hpb, hpc, hsd, v0, v1, v2, v3, v4, v5, v6, v7, v8, v9, v10, v11, v12, v13⟩ := hJ
     have d4 := hd.out 4 (by kernel_rfl); have d5 := hd.out 5 (by kernel_rfl)
     have n12 : b 12 = false := Bool.eq_false_iff.2 fun h => absurd (hcl.out 12 6 (by kernel_rfl) (h)) (by rw [hb]; exact Bool.false_ne_true)
     have r4 := v4 d4; have r5 := v5 d5
     obtain ⟨x_4, c_4, r4⟩ := r4
     have hN := hH; (try simp only [hb, d4, d5, n12, cond_true, cond_false] at hN)
     go_simp
     go_at_call 68
     refine (plainOrder_own HR.out HN.out _ _ _ (hT0.ext hH.ext) (hO.ext hH.ext)).mono ?_; rintro e6 w6 ⟨v6, rfl, hJ6⟩
     rw [HPE.out] at hJ6
     obtain ⟨x6, c6, rfl, _, _⟩ := (hJ6.steps (k := 0) rfl).val
     (try go_simp)
     refine hK.out _ ?_ _ ?_ ?_; rotate_left 2
     · (try simp only [r4, r5]); rfl
     exact ⟨oa, ob, oc, sd, by have hX := hN.add 4 hJ6.ext (hJ6.get (k := 0) rfl) (fun b hb => (hJ6.fpr (k := 0) rfl b hb).1); simpa only [List.set_cons_zero, List.set_cons_succ, updB, updV, blkOf_mk, tup0_mk, partsOf3, blkS_mk, Nat.reduceBEq, cond_true, cond_false, hb, d4, d5, n12, r4, r5] using hX, hpa, hpb, hpc, hsd, v0, v1, v2, v3, v4, v5, fun _ => ⟨_, _, rfl⟩, v7, v8, v9, v10, v11, v12, v13⟩
   refine AllSteps.cons (j := 8) rfl (fun b t wx hJ hb hd hcl Kc hK => ?_) ?_
   · obtain ⟨oa, ob, oc, sd, hH, hpa, hpb, hpc, hsd, v0, v1, v2, v3, v4, v5, v6, v7, v8, v9, v10, v11, v12, v13⟩ := hJ
     have q0_0 := hH.cl 0 0 rfl rfl; have q0_1 := hH.cl 0 1 rfl rfl; have q0_2 := hH.cl 0 2 rfl rfl; have q0_3 := hH.cl 0 3 rfl rfl; have q0_4 := hH.cl 0 4 rfl rfl
     go_simp
     refine hK.out _ ?_ _ ?_ ?_; rotate_left 2
     · rfl
     exact ⟨oa, ob, oc, sd, hH, hpa, hpb, hpc, hsd, v0, v1, v2, v3, v4, v5, v6, fun _ => rfl, v8, v9, v10, v11, v12, v13⟩
   refine AllSteps.cons (j := 9) rfl (fun b t wx hJ hb hd hcl Kc hK => ?_) ?_
   · obtain ⟨oa, ob, oc, sd, hH, hpa, hpb, hpc, hsd, v0, v1, v2, v3, v4, v5, v6, v7, v8, v9, v10, v11, v12, v13⟩ := hJ
     go_simp
     refine hK.out _ ?_ _ ?_ ?_; rotate_left 2
     · rfl
     exact ⟨oa, ob, oc, sd, hH, hpa, hpb, hpc, hsd, v0, v1, v2, v3, v4, v5, v6, v7, fun _ => rfl, v9, v10, v11, v12, v13⟩
   refine AllSteps.cons (j := 10) rfl (fun b t wx hJ hb hd hcl Kc hK => ?_) ?_
   · obtain ⟨oa, ob, oc, sd, hH, hpa, hpb, hpc, hsd, v0, v1, v2, v3, v4, v5, v6, v7, v8, v9, v10, v11, v12, v13⟩ := hJ
     have d6 := hd.out 6 (by kernel_rfl); have d8 := hd.out 8 (by kernel_rfl); have r6 := v6 d6; have r8 := v8 d8
     obtain ⟨x_6, c_6, r6⟩ := r6
     go_simp
     go_at_call 73
     refine (makeNum_any _ l 110 _ (hC.ext hH.ext) (by omega)).mono ?_; rintro e9 w9 ⟨sq, rfl, hs9, h9⟩
     (try go_simp)
     refine hK.out _ ?_ _ ?_ ?_; rotate_left 2
     · (try simp only [r6, r8]); rfl
     exact ⟨oa, ob, oc, sq, by have hX := hH.grow h9; simpa only [List.set_cons_zero, List.set_cons_succ, updB, updV, blkOf_mk, tup0_mk, partsOf3, blkS_mk, Nat.reduceBEq, cond_true, cond_false, hb, d6, d8, r6, r8] using hX, hpa, hpb, hpc, (fun _ => hs9), v0, v1, v2, v3, v4, v5, v6, v7, v8, fun _ => rfl, v10, v11, v12, v13⟩
   refine AllSteps.cons (j := 11) rfl (fun b t wx hJ hb hd hcl Kc hK => ?_) ?_
   · obtain ⟨oa, ob, oc, sd, hH, hpa, hpb, hpc, hsd, v0, v1, v2, v3, v4, v5, v6, v7, v8, v9, v10, v11, v12, v13⟩ := hJ
     have d7 := hd.out 7 (by kernel_rfl); have d9 := hd.out 9 (by kernel_rfl)
     have n12 : b 12 = false := Bool.eq_false_iff.2 fun h => absurd (hcl.out 12 10 (by kernel_rfl) (h)) (by rw [hb]; exact Bool.false_ne_true)
     have r7 := v7 d7; have r9 := v9 d9
     have hN := hH; (try simp only [hb, d7, d9, n12, cond_true, cond_false] at hN)
     go_simp
     go_at_call 72
     refine (randomOrder_any HR.out HN.out _ _ _ (hT0.ext hH.ext) (hO.ext hH.ext) sd (by have h := hsd d9; omega)).mono ?_; rintro e10 w10 ⟨v10, oq, rfl, hJ10, hk10, hl10⟩
     obtain ⟨x10, c10, rfl, _, _⟩ := (hJ10.steps (k := 0) rfl).val
     have HK10 := Lib.hid (And.intro hk10 hl10); clear hk10 hl10
     (try go_simp)
     refine hK.out _ ?_ _ ?_ ?_; rotate_left 2
     · (try simp only [r7, r9]); rfl
     exact ⟨oa, ob, oq, sd, by have hX := hN.add 5 hJ10.ext (hJ10.get (k := 0) rfl) (fun b hb => (hJ10.fpr (k := 0) rfl b hb).1); simpa only [List.set_cons_zero, List.set_cons_succ, updB, updV, blkOf_mk, tup0_mk, partsOf3, blkS_mk, Nat.reduceBEq, cond_true, cond_false, hb, d7, d9, n12, r7, r9] using hX, hpa, hpb, (fun _ => HK10), hsd, v0, v1, v2, v3, v4, v5, v6, v7, v8, v9, fun _ => ⟨_, _, rfl⟩, v11, v12, v13⟩
   refine AllSteps.cons (j := 12) rfl (fun b t wx hJ hb hd hcl Kc hK => ?_) ?_
   · obtain ⟨oa, ob, oc, sd, hH, hpa, hpb, hpc, hsd, v0, v1, v2, v3, v4, v5, v6, v7, v8, v9, v10, v11, v12, v13⟩ := hJ
     go_simp
     refine hK.out _ ?_ _ ?_ ?_; rotate_left 2
     · rfl
     exact ⟨oa, ob, oc, sd, hH, hpa, hpb, hpc, hsd, v0, v1, v2, v3, v4, v5, v6, v7, v8, v9, v10, fun _ => rfl, v12, v13⟩
   refine AllSteps.cons (j := 13) rfl (fun b t wx hJ hb hd hcl Kc hK => ?_) ?_
   · obtain ⟨oa, ob, oc, sd, hH, hpa, hpb, hpc, hsd, v0, v1, v2, v3, v4, v5, v6, v7, v8, v9, v10, v11, v12, v13⟩ := hJ
     have d2 := hd.out 2 (by kernel_rfl); have d4 := hd.out 4 (by kernel_rfl); have d6 := hd.out 6 (by kernel_rfl); have d10 := hd.out 10 (by kernel_rfl); have d11 := hd.out 11 (by kernel_rfl)
     have n13 : b 13 = false := Bool.eq_false_iff.2 fun h => absurd (hcl.out 13 12 (by kernel_rfl) (h)) (by rw [hb]; exact Bool.false_ne_true)
     have r2 := v2 d2; have r4 := v4 d4; have r6 := v6 d6; have r10 := v10 d10; have r11 := v11 d11
     obtain ⟨x_2, c_2, r2⟩ := r2
     obtain ⟨x_4, c_4, r4⟩ := r4
     obtain ⟨x_6, c_6, r6⟩ := r6
     obtain ⟨x_10, c_10, r10⟩ := r10
     have hN := hH; (try simp only [hb, d2, d4, d6, d10, d11, n13, cond_true, cond_false] at hN)
     skip -- d2 d4 d6 d10 d11 .
     refine step_build5 rfl _ _ _ _ _ rfl r2 r4 r6 r10 r11 ?_
     refine hK.out _ ?_ _ ?_ ?_; rotate_left 2
     · (try simp only [r2, r4, r6, r10, r11]); rfl
     exact ⟨oa, ob, oc, sd, by have hX := hN.addB 6 #[.slice x_2 oa.length c_2, .slice x_4 ob.length c_4, .slice x_6 PO.length c_6, .slice x_10 oc.length c_10, .slice a1 ox.length c1] 72; simpa only [List.set_cons_zero, List.set_cons_succ, updB, updV, blkOf_mk, tup0_mk, partsOf3, blkS_mk, Nat.reduceBEq, cond_true, cond_false, hb, d2, d4, d6, d10, d11, n13, r2, r4, r6, r10, r11] using hX, hpa, hpb, hpc, hsd, v0, v1, v2, v3, v4, v5, v6, v7, v8, v9, v10, v11, fun _ => ⟨_, rfl⟩, fun h => absurd (show b 13 = true from h) (by rw [n13]; exact Bool.false_ne_true)⟩
   refine AllSteps.cons (j := 14) rfl (fun b t wx hJ hb hd hcl Kc hK => ?_) ?_
   · obtain ⟨oa, ob, oc, sd, hH, hpa, hpb, hpc, hsd, v0, v1, v2, v3, v4, v5, v6, v7, v8, v9, v10, v11, v12, v13⟩ := hJ
     have d0 := hd.out 0 (by kernel_rfl); have d1 := hd.out 1 (by kernel_rfl); have d2 := hd.out 2 (by kernel_rfl); have d3 := hd.out 3 (by kernel_rfl); have d4 := hd.out 4 (by kernel_rfl); have d5 := hd.out 5 (by kernel_rfl); have d6 := hd.out 6 (by kernel_rfl); have d7 := hd.out 7 (by kernel_rfl); have d8 := hd.out 8 (by kernel_rfl); have d9 := hd.out 9 (by kernel_rfl); have d10 := hd.out 10 (by kernel_rfl); have d11 := hd.out 11 (by kernel_rfl); have d12 := hd.out 12 (by kernel_rfl); have r0 := v0 d0; have r1 := v1 d1; have r2 := v2 d2; have r3 := v3 d3; have r4 := v4 d4; have r5 := v5 d5; have r6 := v6 d6; have r7 := v7 d7; have r8 := v8 d8; have r9 := v9 d9; have r10 := v10 d10; have r11 := v11 d11; have r12 := v12 d12
     obtain ⟨x_2, c_2, r2⟩ := r2
     obtain ⟨x_4, c_4, r4⟩ := r4
     obtain ⟨x_6, c_6, r6⟩ := r6
     obtain ⟨x_10, c_10, r10⟩ := r10
     obtain ⟨z_12, r12⟩ := r12
     go_simp
     refine hK.out _ ?_ _ ?_ ?_; rotate_left 2
     · (try simp only [r0, r1, r2, r3, r4, r5, r6, r7, r8, r9, r10, r11, r12]); rfl
     exact ⟨oa, ob, oc, sd, hH, hpa, hpb, hpc, hsd, v0, v1, v2, v3, v4, v5, v6, v7, v8, v9, v10, v11, v12, fun _ => (by first | rfl | exact r12.symm)⟩
   exact AllSteps.nil
 case hEa =>
  intro b t wa hJ hall
  obtain ⟨oaa, oba, oca, sda, hHa, hpaa, hpba, hpca, hsda, v0, v1, v2, v3, v4, v5, v6, v7, v8, v9, v10, v11, v12, v13⟩ := hJ
  have a0 := hall 0 (by decide); have a1 := hall 1 (by decide); have a2 := hall 2 (by decide); have a3 := hall 3 (by decide); have a4 := hall 4 (by decide); have a5 := hall 5 (by decide); have a6 := hall 6 (by decide); have a7 := hall 7 (by decide); have a8 := hall 8 (by decide); have a9 := hall 9 (by decide); have a10 := hall 10 (by decide); have a11 := hall 11 (by decide); have a12 := hall 12 (by decide); have a13 := hall 13 (by decide)
  (try simp only [a0, a1, a2, a3, a4, a5, a6, a7, a8, a9, a10, a11, a12, a13, cond_true] at hHa)
  replace v0 := v0 a0; replace v1 := v1 a1; replace v2 := v2 a2; replace v3 := v3 a3; replace v4 := v4 a4; replace v5 := v5 a5; replace v6 := v6 a6; replace v7 := v7 a7; replace v8 := v8 a8; replace v9 := v9 a9; replace v10 := v10 a10; replace v11 := v11 a11; replace v12 := v12 a12; replace v13 := v13 a13
  replace hpaa := hpaa a2
  replace hpba := hpba a4
  replace hpca := hpca a10
  replace hsda := hsda a9
  clear hall a0 a1 a2 a3 a4 a5 a6 a7 a8 a9 a10 a11 a12 a13
  generalize t 13 = x13 at hHa v13 ⊢; generalize t 12 = x12 at hHa v12 v13 ⊢; generalize t 11 = x11 at hHa v11 ⊢; generalize t 10 = x10 at hHa v10 ⊢; generalize t 9 = x9 at hHa v9 ⊢; generalize t 8 = x8 at hHa v8 ⊢; generalize t 7 = x7 at hHa v7 ⊢; generalize t 6 = x6 at hHa v6 ⊢; generalize t 5 = x5 at hHa v5 ⊢; generalize t 4 = x4 at hHa v4 ⊢; generalize t 3 = x3 at hHa v3 ⊢; generalize t 2 = x2 at hHa v2 ⊢; generalize t 1 = x1 at hHa v1 ⊢; generalize t 0 = x0 at hHa v0 ⊢; subst v0; subst v1
  obtain ⟨xa2, ca2, rfl⟩ := v2
  subst v3
  obtain ⟨xa4, ca4, rfl⟩ := v4
  subst v5
  obtain ⟨xa6, ca6, rfl⟩ := v6
  subst v7; subst v8; subst v9
  obtain ⟨xa10, ca10, rfl⟩ := v10
  subst v11
  obtain ⟨za12, rfl⟩ := v12
  subst v13
  clear b
  replace hH := hHa; clear hHa
  replace hH : Held wN wa [aB (wN.heap.size) 29 [.int .i64 k, .int .i64 p, .int .i64 n, .slice aV m cV, .slice aO op.length cO], aSt (.slice a1 ox.length c1) ox, aSt (.slice xa2 oaa.length ca2) oaa, aSt (.slice xa4 oba.length ca4) oba, aSt (.slice xa6 PO.length ca6) PO, aSt (.slice xa10 oca.length ca10) oca, aB za12 72 [.slice xa2 oaa.length ca2, .slice xa4 oba.length ca4, .slice xa6 PO.length ca6, .slice xa10 oca.length ca10, .slice a1 ox.length c1]] := hH
  obtain ⟨wx1, rfl⟩ : ∃ q, q = wa := ⟨wa, rfl⟩
  have HALL : Hid (∀ (wx : World), Held wN wx [aB (wN.heap.size) 29 [.int .i64 k, .int .i64 p, .int .i64 n, .slice aV m cV, .slice aO op.length cO], aSt (.slice a1 ox.length c1) ox, aSt (.slice xa2 oaa.length ca2) oaa, aSt (.slice xa4 oba.length ca4) oba, aSt (.slice xa6 PO.length ca6) PO, aSt (.slice xa10 oca.length ca10) oca, aB za12 72 [.slice xa2 oaa.length ca2, .slice xa4 oba.length ca4, .slice xa6 PO.length ca6, .slice xa10 oca.length ca10, .slice a1 ox.length c1]] → ∀ j, j < 5 → ∃ (av : Option Addr) (cv : Nat) (os : List (Int × Int)), ([.slice xa2 oaa.length ca2, .slice xa4 oba.length ca4, .slice xa6 PO.length ca6, .slice xa10 oca.length ca10, .slice a1 ox.length c1] : List Value)[j]? = some (.slice av os.length cv) ∧ StepsS wx (.slice av os.length cv) os ∧ okO (numL ts.length) (ts.length : Int) os ∧ os.length = ts.length - 1) := Lib.hid fun wx hX j hj => by
   rcases j with _ | _ | _ | _ | _ | j
   · exact ⟨_, _, _, rfl, hX.steps (k := 2) rfl, hpaa.out.1, hpaa.out.2⟩
   · exact ⟨_, _, _, rfl, hX.steps (k := 3) rfl, hpba.out.1, hpba.out.2⟩
   · exact ⟨_, _, _, rfl, hX.steps (k := 4) rfl, HPO.out, HPN.out⟩
   · exact ⟨_, _, _, rfl, hX.steps (k := 5) rfl, hpca.out.1, hpca.out.2⟩
   · exact ⟨_, _, _, rfl, hX.steps (k := 1) rfl, HOX.out.1, HOX.out.2⟩
   · omega
  clear hpaa hpba hpca hsda
  have q0_0 := hH.cl 0 0 rfl rfl; have q0_1 := hH.cl 0 1 rfl rfl; have q0_2 := hH.cl 0 2 rfl rfl; have q0_3 := hH.cl 0 3 rfl rfl; have q0_4 := hH.cl 0 4 rfl rfl; have l0_ := hH.bl 0 rfl; have c_kr_0 := hH.ext.cell kr_0; have c_kr_1 := hH.ext.cell kr_1; have c_kr_2 := hH.ext.cell kr_2
  have c_kr_l := Nat.lt_of_lt_of_le kr_l hH.ext.size
  go_wp2_with fail
  clear q0_0 q0_1 q0_2 q0_3 q0_4 l0_ c_kr_0 c_kr_1 c_kr_2 c_kr_l
  go_loopw [42] (fun i wr => ∃ (j : Nat), j ≤ 5 ∧ i = .int .i64 (j : Int) ∧ Held wN wr [aB (wN.heap.size) 29 [.int .i64 k, .int .i64 p, .int .i64 n, .slice aV m cV, .slice aO op.length cO], aSt (.slice a1 ox.length c1) ox, aSt (.slice xa2 oaa.length ca2) oaa, aSt (.slice xa4 oba.length ca4) oba, aSt (.slice xa6 PO.length ca6) PO, aSt (.slice xa10 oca.length ca10) oca, aB za12 72 [.slice xa2 oaa.length ca2, .slice xa4 oba.length ca4, .slice xa6 PO.length ca6, .slice xa10 oca.length ca10, .slice a1 ox.length c1]]) (fun i wr => 5 - (RowKit.intOf i).toNat)
  case atStart => exact ⟨0, Nat.zero_le _, rfl, hH⟩
  case round =>
   clear hH
   obtain ⟨j, hj, rfl, hH⟩ := hrel
   obtain ⟨wq, rfl⟩ : ∃ q, q = wr := ⟨wr, rfl⟩
   by_cases hlt : j < 5
   ·
    obtain ⟨av, cv, os, hcj, hst, hok, hol⟩ := HALL.out _ hH j hlt
    have c_j := (hH.blk (k := 6) rfl).cell hcj
    have l_j := hH.bl 6 rfl
    have hle := HLX.out.low os hok hol
    obtain ⟨zc, hzc⟩ : ∃ q, (costsT HR.out dimOf op (numL ts.length) (ts.length : Int) ts os os.length).sum = q := ⟨_, rfl⟩
    rw [hzc] at hle
    have hlt2 : ¬ zc < zx := by omega
    have HZC := Lib.hid hzc; have HK := Lib.hid (And.intro hok hol)
    clear hcj hok hol hzc
    have q0_0 := hH.cl 0 0 rfl rfl; have q0_1 := hH.cl 0 1 rfl rfl; have q0_2 := hH.cl 0 2 rfl rfl; have q0_3 := hH.cl 0 3 rfl rfl; have q0_4 := hH.cl 0 4 rfl rfl; have l0_ := hH.bl 0 rfl; have c_kr_0 := hH.ext.cell kr_0; have c_kr_1 := hH.ext.cell kr_1; have c_kr_2 := hH.ext.cell kr_2
    have c_kr_l := Nat.lt_of_lt_of_le kr_l hH.ext.size
    go_wp2_with fail
    clear q0_0 q0_1 q0_2 q0_3 q0_4 l0_ c_kr_0 c_kr_1 c_kr_2 c_kr_l
    clear c_j l_j
    refine (orderOk_any HR.out HN.out _ _ _ (hT0.ext hH.ext) (hO.ext hH.ext) HK.out.1 HK.out.2 _ hst).mono ?_; rintro ewn5 wn5 ⟨rfl, hwn5⟩
    replace hH : Held wN wn5 [aB (wN.heap.size) 29 [.int .i64 k, .int .i64 p, .int .i64 n, .slice aV m cV, .slice aO op.length cO], aSt (.slice a1 ox.length c1) ox, aSt (.slice xa2 oaa.length ca2) oaa, aSt (.slice xa4 oba.length ca4) oba, aSt (.slice xa6 PO.length ca6) PO, aSt (.slice xa10 oca.length ca10) oca, aB za12 72 [.slice xa2 oaa.length ca2, .slice xa4 oba.length ca4, .slice xa6 PO.length ca6, .slice xa10 oca.length ca10, .slice a1 ox.length c1]] := hH.grow hwn5
    replace hst := hst.ext hwn5
    clear hwn5
    have q0_0 := hH.cl 0 0 rfl rfl; have q0_1 := hH.cl 0 1 rfl rfl; have q0_2 := hH.cl 0 2 rfl rfl; have q0_3 := hH.cl 0 3 rfl rfl; have q0_4 := hH.cl 0 4 rfl rfl; have l0_ := hH.bl 0 rfl; have c_kr_0 := hH.ext.cell kr_0; have c_kr_1 := hH.ext.cell kr_1; have c_kr_2 := hH.ext.cell kr_2
    have c_kr_l := Nat.lt_of_lt_of_le kr_l hH.ext.size
    go_wp2_with fail
    clear q0_0 q0_1 q0_2 q0_3 q0_4 l0_ c_kr_0 c_kr_1 c_kr_2 c_kr_l
    refine (orderCost_any HR.out HN.out _ _ _ (hT0.ext hH.ext) (hO.ext hH.ext) HK.out.1 HK.out.2 _ hst).mono ?_; rintro ewn6 wn6 ⟨rfl, hwn6⟩
    rw [HZC.out]
    replace hH : Held wN wn6 [aB (wN.heap.size) 29 [.int .i64 k, .int .i64 p, .int .i64 n, .slice aV m cV, .slice aO op.length cO], aSt (.slice a1 ox.length c1) ox, aSt (.slice xa2 oaa.length ca2) oaa, aSt (.slice xa4 oba.length ca4) oba, aSt (.slice xa6 PO.length ca6) PO, aSt (.slice xa10 oca.length ca10) oca, aB za12 72 [.slice xa2 oaa.length ca2, .slice xa4 oba.length ca4, .slice xa6 PO.length ca6, .slice xa10 oca.length ca10, .slice a1 ox.length c1]] := hH.grow hwn6
    replace hst := hst.ext hwn6
    clear hwn6
    go_wp2_with fail
    go_roundw
    case rel => exact ⟨j + 1, by omega, by go_num, hH⟩
    case measure => simp [RowKit.intOf]; omega
   ·
    have q0_0 := hH.cl 0 0 rfl rfl; have q0_1 := hH.cl 0 1 rfl rfl; have q0_2 := hH.cl 0 2 rfl rfl; have q0_3 := hH.cl 0 3 rfl rfl; have q0_4 := hH.cl 0 4 rfl rfl; have l0_ := hH.bl 0 rfl; have c_kr_0 := hH.ext.cell kr_0; have c_kr_1 := hH.ext.cell kr_1; have c_kr_2 := hH.ext.cell kr_2
    have c_kr_l := Nat.lt_of_lt_of_le kr_l hH.ext.size
    go_wp2_with fail
    clear q0_0 q0_1 q0_2 q0_3 q0_4 l0_ c_kr_0 c_kr_1 c_kr_2 c_kr_l
    refine (makeNum_any _ l 120 _ (hC.ext hH.ext) (by omega)).mono ?_; rintro ewn7 wn7 ⟨x2, rfl, hx2, hwn7⟩
    replace hH : Held wN wn7 [aB (wN.heap.size) 29 [.int .i64 k, .int .i64 p, .int .i64 n, .slice aV m cV, .slice aO op.length cO], aSt (.slice a1 ox.length c1) ox, aSt (.slice xa2 oaa.length ca2) oaa, aSt (.slice xa4 oba.length ca4) oba, aSt (.slice xa6 PO.length ca6) PO, aSt (.slice xa10 oca.length ca10) oca, aB za12 72 [.slice xa2 oaa.length ca2, .slice xa4 oba.length ca4, .slice xa6 PO.length ca6, .slice xa10 oca.length ca10, .slice a1 ox.length c1]] := hH.grow hwn7
    clear hwn7
    have q0_0 := hH.cl 0 0 rfl rfl; have q0_1 := hH.cl 0 1 rfl rfl; have q0_2 := hH.cl 0 2 rfl rfl; have q0_3 := hH.cl 0 3 rfl rfl; have q0_4 := hH.cl 0 4 rfl rfl; have l0_ := hH.bl 0 rfl; have c_kr_0 := hH.ext.cell kr_0; have c_kr_1 := hH.ext.cell kr_1; have c_kr_2 := hH.ext.cell kr_2
    have c_kr_l := Nat.lt_of_lt_of_le kr_l hH.ext.size
    go_wp2_with fail
    clear q0_0 q0_1 q0_2 q0_3 q0_4 l0_ c_kr_0 c_kr_1 c_kr_2 c_kr_l
    refine (nextSeed_any x2 (by omega) (by omega) _).mono ?_; rintro e7 w7 ⟨rfl, rfl⟩
    obtain ⟨se, hse⟩ : ∃ q, nextS x2 = q := ⟨_, rfl⟩
    have hso := nextS_ok x2
    rw [hse] at hso ⊢
    obtain ⟨hso1, hso2⟩ := hso
    have hso3 : ¬ se < 0 := by omega
    clear hse hx2
    have q0_0 := hH.cl 0 0 rfl rfl; have q0_1 := hH.cl 0 1 rfl rfl; have q0_2 := hH.cl 0 2 rfl rfl; have q0_3 := hH.cl 0 3 rfl rfl; have q0_4 := hH.cl 0 4 rfl rfl; have l0_ := hH.bl 0 rfl; have c_kr_0 := hH.ext.cell kr_0; have c_kr_1 := hH.ext.cell kr_1; have c_kr_2 := hH.ext.cell kr_2
    have c_kr_l := Nat.lt_of_lt_of_le kr_l hH.ext.size
    go_wp2_with fail
    clear q0_0 q0_1 q0_2 q0_3 q0_4 l0_ c_kr_0 c_kr_1 c_kr_2 c_kr_l
    refine (orderCost_any HR.out HN.out _ _ _ (hT0.ext hH.ext) (hO.ext hH.ext) HOX.out.1 HOX.out.2 _ (hH.steps (k := 1) rfl)).mono ?_; rintro ewn8 wn8 ⟨rfl, hwn8⟩
    rw [HCX.out]
    replace hH : Held wN wn8 [aB (wN.heap.size) 29 [.int .i64 k, .int .i64 p, .int .i64 n, .slice aV m cV, .slice aO op.length cO], aSt (.slice a1 ox.length c1) ox, aSt (.slice xa2 oaa.length ca2) oaa, aSt (.slice xa4 oba.length ca4) oba, aSt (.slice xa6 PO.length ca6) PO, aSt (.slice xa10 oca.length ca10) oca, aB za12 72 [.slice xa2 oaa.length ca2, .slice xa4 oba.length ca4, .slice xa6 PO.length ca6, .slice xa10 oca.length ca10, .slice a1 ox.length c1]] := hH.grow hwn8
    clear hwn8
    have q0_0 := hH.cl 0 0 rfl rfl; have q0_1 := hH.cl 0 1 rfl rfl; have q0_2 := hH.cl 0 2 rfl rfl; have q0_3 := hH.cl 0 3 rfl rfl; have q0_4 := hH.cl 0 4 rfl rfl; have l0_ := hH.bl 0 rfl; have c_kr_0 := hH.ext.cell kr_0; have c_kr_1 := hH.ext.cell kr_1; have c_kr_2 := hH.ext.cell kr_2
    have c_kr_l := Nat.lt_of_lt_of_le kr_l hH.ext.size
    go_wp2_with fail
    clear q0_0 q0_1 q0_2 q0_3 q0_4 l0_ c_kr_0 c_kr_1 c_kr_2 c_kr_l
    refine (costBound_any HR.out HN.out _ _ _ (hT0.ext hH.ext) (hO.ext hH.ext)).mono ?_; rintro ewn9 wn9 ⟨rfl, hwn9⟩
    have hbd := HLX.out.bnd
    obtain ⟨zb, hzb⟩ : ∃ q, (if ts.length < 2 then 0 else maxT dimOf 0 ts) = q := ⟨_, rfl⟩
    rw [hzb] at hbd ⊢
    clear hzb
    replace hH : Held wN wn9 [aB (wN.heap.size) 29 [.int .i64 k, .int .i64 p, .int .i64 n, .slice aV m cV, .slice aO op.length cO], aSt (.slice a1 ox.length c1) ox, aSt (.slice xa2 oaa.length ca2) oaa, aSt (.slice xa4 oba.length ca4) oba, aSt (.slice xa6 PO.length ca6) PO, aSt (.slice xa10 oca.length ca10) oca, aB za12 72 [.slice xa2 oaa.length ca2, .slice xa4 oba.length ca4, .slice xa6 PO.length ca6, .slice xa10 oca.length ca10, .slice a1 ox.length c1]] := hH.grow hwn9
    clear hwn9
    have q0_0 := hH.cl 0 0 rfl rfl; have q0_1 := hH.cl 0 1 rfl rfl; have q0_2 := hH.cl 0 2 rfl rfl; have q0_3 := hH.cl 0 3 rfl rfl; have q0_4 := hH.cl 0 4 rfl rfl; have l0_ := hH.bl 0 rfl; have c_kr_0 := hH.ext.cell kr_0; have c_kr_1 := hH.ext.cell kr_1; have c_kr_2 := hH.ext.cell kr_2
    have c_kr_l := Nat.lt_of_lt_of_le kr_l hH.ext.size
    have HE := Lib.hid (E0.trans hH.ext); clear hH
    go_wp2
    go_ret
    exact ⟨rfl, HE.out⟩
end Go.Proofs.Ytpegckmagiaggaa
