/- StepLabels, OrderCosts, OrderCost of the program, of a valid order. -/
import Derived.Test.YtpegckmagiaggaaOG21
set_option linter.unusedSimpArgs false
set_option linter.unusedVariables false
namespace Go.Proofs.Ytpegckmagiaggaa
open Go.RowKit
set_option maxRecDepth 100000 in
set_option maxHeartbeats 4000000 in
theorem stepLabels_any {k p n : Int} (hr : ringOk k p n = true) {dm : Int → Int} {U : List Int} {ts : List (NT k p n)} {op : List Int} (hN : IsN k p n dm U ts op) (tv ov : Value) (w : World) (hT : TensS w tv (ts.map (tenOf dm))) (hO : IntS w ov op) {os : List (Int × Int)} (hok : okO (numL ts.length) (ts.length : Int) os) (hol : os.length = ts.length - 1) (vo : Value) (hVo : StepsS w vo os) (kk : Nat) (hkk : kk < os.length) :
 Calls Try.prog 55 #[.agg #[.int .i64 k, .int .i64 p, .int .i64 n, tv, ov], vo, .int .i64 (kk : Int)] w fun e w' => ∃ u, e = .returned u ∧ OwnI w' w.heap.size u (lastL (runN hr dm op (numL ts.length) (ts.length : Int) ts (os.take (kk + 1))).2) ∧ Ext w w' := by
 have hT0 := hT
 have hO0 := hO
 obtain ⟨m, hm⟩ : ∃ m, ts.length = m := ⟨_, rfl⟩
 obtain ⟨aV, cV, rfl, hcT1, hcT2⟩ := hT.val
 obtain ⟨aO, cO, rfl, hcO1, hcO2⟩ := hO.val
 rw [List.length_map, hm] at hT hT0 hcT1
 rw [List.length_map, hm]
 have hm12 : m ≤ 12 := by rw [← hm]; exact hN.len
 have hop12 : op.length ≤ 12 := hN.rank
 have HM := Lib.hid hm; have HR := Lib.hid hr; have HN := Lib.hid hN; have HD3 := Lib.hid hN.dims3; clear hm  hN
 have hTl : Hid ((ts.map (tenOf dm)).length = m) := Lib.hid (by rw [List.length_map]; exact HM.out)
 have hm2 := HM
 obtain ⟨aQ, cQ, rfl, hcq1, hcq2⟩ := hVo.val
 have HOK := Lib.hid hok; have HOL := Lib.hid hol
 have hol2 : os.length ≤ m := by rw [← hm2.out]; omega
 clear hok hol
 go_enter Try.func55, Try.ntmps55
 go_upto_region 1 with fail
 have hH : Held w w [] := Held.new (Ext.refl w) 0
 have hB : Held w (w.alloc (.cells #[.int .i64 k, .int .i64 p, .int .i64 n, .slice aV m cV, .slice aO op.length cO] 29)) [aB (w.heap.size) 29 [.int .i64 k, .int .i64 p, .int .i64 n, .slice aV m cV, .slice aO op.length cO]] := by
  have h := (hH.mores 1).addB 0 #[.int .i64 k, .int .i64 p, .int .i64 n, .slice aV m cV, .slice aO op.length cO] 29
  exact h
 have hsz : (w.alloc (.cells #[.int .i64 k, .int .i64 p, .int .i64 n, .slice aV m cV, .slice aO op.length cO] 29)).heap.size = w.heap.size + 1 := by simp
 generalize w.alloc (.cells #[.int .i64 k, .int .i64 p, .int .i64 n, .slice aV m cV, .slice aO op.length cO] 29) = wn1 at hB hsz ⊢
 replace hH := hB; have HSZwn1 := Lib.hid hsz; clear hB hsz
 have hk0 : ¬ ((kk : Int) < 0) := by omega
 have hk1 : ¬ ((os.length : Int) ≤ (kk : Int)) := by omega
 have hk2 : (kk : Int) + 1 ≤ os.length := by omega
 have hos12 : os.length ≤ 12 := by omega
 have q0_0 := hH.cl 0 0 rfl rfl; have q0_1 := hH.cl 0 1 rfl rfl; have q0_2 := hH.cl 0 2 rfl rfl; have q0_3 := hH.cl 0 3 rfl rfl; have q0_4 := hH.cl 0 4 rfl rfl; have l0_ := hH.bl 0 rfl
 go_wp2_with fail
 clear q0_0 q0_1 q0_2 q0_3 q0_4 l0_
 refine (orderOk_any HR.out HN.out _ _ _ (hT0.ext hH.ext) (hO0.ext hH.ext) HOK.out HOL.out _ (hVo.ext hH.ext)).mono ?_; rintro e0 w0 ⟨rfl, h0⟩
 replace hH := hH.grow h0; clear h0
 have q0_0 := hH.cl 0 0 rfl rfl; have q0_1 := hH.cl 0 1 rfl rfl; have q0_2 := hH.cl 0 2 rfl rfl; have q0_3 := hH.cl 0 3 rfl rfl; have q0_4 := hH.cl 0 4 rfl rfl; have l0_ := hH.bl 0 rfl
 go_wp2_with fail
 clear q0_0 q0_1 q0_2 q0_3 q0_4 l0_
 refine (startState_any HR.out HN.out _ _ _ (hT0.ext hH.ext) (hO0.ext hH.ext)).mono ?_; rintro e1 w1 ⟨s, cs0, rfl, h1, hsw1, hS0, hc0⟩
 have hE0 := hH.ext.trans h1
 have hsw : w.heap.size ≤ s := Nat.le_trans hH.ext.size hsw1
 have HC0 := Lib.hid hc0
 clear h1 hsw1 hc0
 clear hH
 go_wp2_with fail
 go_loopw [31] (fun i wr => ∃ (j : Nat) (cs : List (Int × Value)) (ns : List Int) (tj : List (NT k p n)), j ≤ kk + 1 ∧ i = .int .i64 (j : Int) ∧ Hid (AtStep hr dm U op (numL ts.length) (ts.length : Int) ts os j ns tj) ∧ Hid (cs.map (·.1) = ns) ∧ OrdS wr s (arrL dm (occ ts)) op cs (tj.map (·.1)) ((ts.length : Int) + j) ∧ Ext w wr) (fun i wr => kk + 1 - (RowKit.intOf i).toNat)
 case atStart => exact ⟨0, cs0, numL ts.length, ts, Nat.zero_le _, rfl, Lib.hid (AtStep.mk' HOK.out (numL_len _) HN.out 0 (Nat.zero_le _)), HC0, by rw [show (ts.length : Int) + ((0 : Nat) : Int) = (ts.length : Int) by simp]; exact hS0, hE0⟩
 case round =>
  clear hE0 hS0 HC0
  obtain ⟨j, cs, ns, tj, hj, rfl, HA, HC, hS, hE⟩ := hrel
  by_cases hlt : j < kk + 1
  ·
   obtain ⟨bS, oS, ea, eb, haq, hos, hs0, hs1⟩ := hVo.get (show j < os.length by omega)
   subst haq
   replace hs0 := hE.cell hs0; replace hs1 := hE.cell hs1
   obtain ⟨hA2, hma, hmb, hab⟩ := HA.out.next HOK.out (numL_len _) HN.out hos
   simp only at hma hmb hab
   rw [← HC.out] at hma hmb
   have hleft := HA.out.left
   rw [HM.out] at hleft
   have hll : (tj.map (·.1)).length ≤ 1000 := by rw [List.length_map]; omega
   have hrk : ∀ l ∈ tj.map (·.1), l.length ≤ 500 := fun l hl => Nat.le_trans (HA.out.rank l hl) (by omega)
   have hnx0 : (0 : Int) ≤ (ts.length : Int) + j := by omega
   have hnx1 : (ts.length : Int) + j ≤ 2000 := by rw [HM.out]; omega
   have HRK2 := Lib.hid hrk; have HA2 := Lib.hid hA2; have HOS2 := Lib.hid hos; have HMA := Lib.hid hma; have HMB := Lib.hid hmb; have HNX := Lib.hid (And.intro hnx0 hnx1); have HLL2 := Lib.hid hll
   clear hrk hA2 hos hma hmb hnx0 hnx1 hleft hll
   have hH : Held wr wr [] := Held.new (Ext.refl wr) 0
   have c_hs0 := hH.ext.cell hs0; have c_hs1 := hH.ext.cell hs1
   go_upto_region 7 with fail
   clear c_hs0 c_hs1
   have hB : Held wr (wr.alloc (.cells #[.int .i64 ea, .int .i64 eb] 138)) [aB (wr.heap.size) 138 [.int .i64 ea, .int .i64 eb]] := by
    have h := (hH.mores 1).addB 0 #[.int .i64 ea, .int .i64 eb] 138
    exact h
   have hsz : (wr.alloc (.cells #[.int .i64 ea, .int .i64 eb] 138)).heap.size = wr.heap.size + 1 := by simp
   generalize wr.alloc (.cells #[.int .i64 ea, .int .i64 eb] 138) = wn2 at hB hsz ⊢
   replace hH := hB; have HSZwn2 := Lib.hid hsz; clear hB hsz
   have q0_0 := hH.cl 0 0 rfl rfl; have q0_1 := hH.cl 0 1 rfl rfl; have l0_ := hH.bl 0 rfl; have c_hs0 := hH.ext.cell hs0; have c_hs1 := hH.ext.cell hs1
   go_wp2_with fail
   clear q0_0 q0_1 l0_ c_hs0 c_hs1
   refine (follow_any (arrL_length _ _) _ (hS.ext hH.ext) HLL2.out HRK2.out HNX.out.1 HNX.out.2 ea eb HMA.out HMB.out hab).mono ?_; rintro e5 w5 ⟨cs5, rfl, g5, hS5, hc5⟩
   have hE5 : Ext w w5 := (hE.trans hH.ext).only g5 (fun q hq => by cases hq; exact hsw)
   have HC5 := Lib.hid (show cs5.map (·.1) = numStep ns ((ts.length : Int) + j) (ea, eb) by rw [← HC.out]; exact hc5)
   replace hS5 : OrdS w5 s (arrL dm (occ ts)) op cs5 ((tenStep hr dm op ns tj (ea, eb)).map (·.1)) ((ts.length : Int) + ((j + 1 : Nat) : Int)) := by
    rw [tenStep_lab, ← HC.out, show (ts.length : Int) + ((j + 1 : Nat) : Int) = (ts.length : Int) + j + 1 by push_cast; omega]; exact hS5
   have HS5 := Lib.hid hS5; have HE5 := Lib.hid hE5
   clear hH hS5 hE5 g5 hc5
   go_wp2_with fail
   go_roundw
   case rel => exact ⟨j + 1, cs5, _, _, by omega, by go_num, HA2, HC5, HS5.out, HE5.out⟩
   case measure => simp [RowKit.intOf]; omega
  ·
   have hje : j = kk + 1 := by omega
   subst hje
   obtain ⟨w3, rfl⟩ : ∃ q, q = wr := ⟨wr, rfl⟩
   obtain ⟨ov, lv, hB, hov, hovs, hLv⟩ := hS.has
   obtain ⟨aV, cV, rfl, hcV1, hcV2⟩ := hLv.val
   obtain ⟨mj, hmj⟩ : ∃ q, tj.length = q := ⟨_, rfl⟩
   have HMJ := Lib.hid hmj
   rw [List.length_map, hmj] at hLv hcV1 hB
   have k101 := (state_100 (arrL_length _ _) hB).2.1
   have kst := hB.lt
   clear hB hov hovs hmj
   have hmj1 : 1 ≤ mj := by have h1 := HA.out.left; have h2 := HOL.out; have h3 := HM.out; have h4 := HMJ.out; omega
   have hmj2 : mj ≤ 12 := by have h1 := HA.out.left; have h3 := HM.out; have h4 := HMJ.out; omega
   obtain ⟨ml, hml⟩ : ∃ ml, mj = ml + 1 := ⟨mj - 1, by omega⟩
   have hmlt : ml < mj := by omega
   have hcast : (mj : Int) - 1 = (ml : Int) := by omega
   have HML := Lib.hid hml; clear hml
   obtain ⟨bL, oL, c, l, hV, hcj, hlj, hq0, hq1, hI⟩ := hLv.get (i := ml) (by rw [List.length_map, HMJ.out]; exact hmlt)
   subst hV
   obtain ⟨n, u⟩ := c
   simp only at hq0 hq1 hI
   obtain ⟨ea, ec, rfl, _, _⟩ := hI.val
   rw [Nat.mul_comm 2 (ml)] at hq0 hq1
   rw [← Nat.add_assoc] at hq1
   have HL := Lib.hid (show labAt (tj.map (·.1)) (ml) = l from labAt_get hlj)
   have HMt : Hid (∃ t ∈ tj, t.1 = l) := Lib.hid (by rw [List.getElem?_map] at hlj; obtain ⟨t, ht, he⟩ := Option.map_eq_some_iff.1 hlj; exact ⟨t, List.mem_of_getElem? ht, he⟩)
   clear hcj hlj
   have HRS : Hid (lastL (runN hr dm op (numL m) (m : Int) ts (os.take (kk + 1))).2 = l) := Lib.hid (by have h := HA.out.eqT; rw [HM.out] at h; rw [h]; unfold lastL; rw [HMJ.out, HML.out]; exact HL.out)
   have hl12 : l.length ≤ 12 := by obtain ⟨t, ht, he⟩ := HMt.out; rw [← he]; exact (HA.out.isN.ten t ht).ax.rank
   have hwr : IntKind.i64.wrap (ml : Int) = (ml : Int) := by rw [IntKind.wrap_i64]; omega
   have hH : Held w3 w3 [] := Held.new (Ext.refl w3) 0
   go_upto_region 9 with fail
   replace hH := hH.mores 1
   replace hH : Held w3 w3 [emp] := hH
   refine wp_region_steps ?Fa (fun b t wx => Held w3 wx [(bif b 13 then aI (t 13) l else emp)] ∧ (b 0 = true → t 0 = .pointer (some ⟨s, 0, none⟩)) ∧ (b 1 = true → t 1 = .pointer (some ⟨s, 0, none⟩)) ∧ (b 2 = true → t 2 = .pointer (some ⟨s, 101, none⟩)) ∧ (b 3 = true → t 3 = .slice (some ⟨bL, oL, none⟩) mj cV) ∧ (b 4 = true → t 4 = .pointer (some ⟨s, 0, none⟩)) ∧ (b 5 = true → t 5 = .pointer (some ⟨s, 0, none⟩)) ∧ (b 6 = true → t 6 = .pointer (some ⟨s, 101, none⟩)) ∧ (b 7 = true → t 7 = .slice (some ⟨bL, oL, none⟩) mj cV) ∧ (b 8 = true → t 8 = .int .i64 (mj : Int)) ∧ (b 9 = true → t 9 = .int .i64 (ml : Int)) ∧ (b 10 = true → t 10 = .pointer (some ⟨bL, oL + ml * 2, none⟩)) ∧ (b 11 = true → t 11 = .pointer (some ⟨bL, oL + ml * 2 + 1, none⟩)) ∧ (b 12 = true → t 12 = .slice ea l.length ec) ∧ (b 13 = true → ∃ x c, t 13 = .slice x l.length c) ∧ (b 14 = true → t 14 = t 13)) ?hFa (by kernel_rfl) (by kernel_rfl) ?hJa ?hSa ?hEa
   (case hFa => intro t; simp only [putAll, Act.put, List.setIfInBounds_toArray, List.set_cons_zero, List.set_cons_succ, Nat.reduceAdd, Nat.zero_add]; exact rfl)
   case hJa => exact ⟨hH.grow ((Ext.refl _).drew), fun h => absurd h Bool.false_ne_true, fun h => absurd h Bool.false_ne_true, fun h => absurd h Bool.false_ne_true, fun h => absurd h Bool.false_ne_true, fun h => absurd h Bool.false_ne_true, fun h => absurd h Bool.false_ne_true, fun h => absurd h Bool.false_ne_true, fun h => absurd h Bool.false_ne_true, fun h => absurd h Bool.false_ne_true, fun h => absurd h Bool.false_ne_true, fun h => absurd h Bool.false_ne_true, fun h => absurd h Bool.false_ne_true, fun h => absurd h Bool.false_ne_true, fun h => absurd h Bool.false_ne_true, fun h => absurd h Bool.false_ne_true⟩
   case hSa => as_aux_lemma =>
     refine AllSteps.cons (j := 1) rfl (fun b t wx hJ hb hd hcl Kc hK => ?_) ?_
     · obtain ⟨hH, v0, v1, v2, v3, v4, v5, v6, v7, v8, v9, v10, v11, v12, v13, v14⟩ := hJ
       have c_k101 := hH.ext.cell k101; have c_hq1 := hH.ext.cell hq1
       go_simp
       refine hK.out _ ?_ _ ?_ ?_; rotate_left 2
       · rfl
       exact ⟨hH, fun _ => rfl, v1, v2, v3, v4, v5, v6, v7, v8, v9, v10, v11, v12, v13, v14⟩
     refine AllSteps.cons (j := 2) rfl (fun b t wx hJ hb hd hcl Kc hK => ?_) ?_
     · obtain ⟨hH, v0, v1, v2, v3, v4, v5, v6, v7, v8, v9, v10, v11, v12, v13, v14⟩ := hJ
       have d0 := hd.out 0 (by kernel_rfl); have r0 := v0 d0; have c_k101 := hH.ext.cell k101; have c_hq1 := hH.ext.cell hq1
       go_simp
       refine hK.out _ ?_ _ ?_ ?_; rotate_left 2
       · (try simp only [r0]); rfl
       exact ⟨hH, v0, fun _ => rfl, v2, v3, v4, v5, v6, v7, v8, v9, v10, v11, v12, v13, v14⟩
     refine AllSteps.cons (j := 3) rfl (fun b t wx hJ hb hd hcl Kc hK => ?_) ?_
     · obtain ⟨hH, v0, v1, v2, v3, v4, v5, v6, v7, v8, v9, v10, v11, v12, v13, v14⟩ := hJ
       have d1 := hd.out 1 (by kernel_rfl); have r1 := v1 d1; have c_k101 := hH.ext.cell k101; have c_hq1 := hH.ext.cell hq1
       go_simp
       refine hK.out _ ?_ _ ?_ ?_; rotate_left 2
       · (try simp only [r1]); rfl
       exact ⟨hH, v0, v1, fun _ => rfl, v3, v4, v5, v6, v7, v8, v9, v10, v11, v12, v13, v14⟩
     refine AllSteps.cons (j := 4) rfl (fun b t wx hJ hb hd hcl Kc hK => ?_) ?_
     · obtain ⟨hH, v0, v1, v2, v3, v4, v5, v6, v7, v8, v9, v10, v11, v12, v13, v14⟩ := hJ
       have d2 := hd.out 2 (by kernel_rfl); have r2 := v2 d2; have c_k101 := hH.ext.cell k101; have c_hq1 := hH.ext.cell hq1
       go_simp
       refine hK.out _ ?_ _ ?_ ?_; rotate_left 2
       · (try simp only [r2]); rfl
       exact ⟨hH, v0, v1, v2, fun _ => rfl, v4, v5, v6, v7, v8, v9, v10, v11, v12, v13, v14⟩
     refine AllSteps.cons (j := 5) rfl (fun b t wx hJ hb hd hcl Kc hK => ?_) ?_
     · obtain ⟨hH, v0, v1, v2, v3, v4, v5, v6, v7, v8, v9, v10, v11, v12, v13, v14⟩ := hJ
       have c_k101 := hH.ext.cell k101; have c_hq1 := hH.ext.cell hq1
       go_simp
       refine hK.out _ ?_ _ ?_ ?_; rotate_left 2
       · rfl
       exact ⟨hH, v0, v1, v2, v3, fun _ => rfl, v5, v6, v7, v8, v9, v10, v11, v12, v13, v14⟩
     refine AllSteps.cons (j := 6) rfl (fun b t wx hJ hb hd hcl Kc hK => ?_) ?_
     · obtain ⟨hH, v0, v1, v2, v3, v4, v5, v6, v7, v8, v9, v10, v11, v12, v13, v14⟩ := hJ
       have d4 := hd.out 4 (by kernel_rfl); have r4 := v4 d4; have c_k101 := hH.ext.cell k101; have c_hq1 := hH.ext.cell hq1
       go_simp
       refine hK.out _ ?_ _ ?_ ?_; rotate_left 2
       · (try simp only [r4]); rfl
       exact ⟨hH, v0, v1, v2, v3, v4, fun _ => rfl, v6, v7, v8, v9, v10, v11, v12, v13, v14⟩
     refine AllSteps.cons (j := 7) rfl (fun b t wx hJ hb hd hcl Kc hK => ?_) ?_
     · obtain ⟨hH, v0, v1, v2, v3, v4, v5, v6, v7, v8, v9, v10, v11, v12, v13, v14⟩ := hJ
       have d5 := hd.out 5 (by kernel_rfl); have r5 := v5 d5; have c_k101 := hH.ext.cell k101; have c_hq1 := hH.ext.cell hq1
       go_simp
       refine hK.out _ ?_ _ ?_ ?_; rotate_left 2
       · (try simp only [r5]); rfl
       exact ⟨hH, v0, v1, v2, v3, v4, v5, fun _ => rfl, v7, v8, v9, v10, v11, v12, v13, v14⟩
     refine AllSteps.cons (j := 8) rfl (fun b t wx hJ hb hd hcl Kc hK => ?_) ?_
     · obtain ⟨hH, v0, v1, v2, v3, v4, v5, v6, v7, v8, v9, v10, v11, v12, v13, v14⟩ := hJ
       have d6 := hd.out 6 (by kernel_rfl); have r6 := v6 d6; have c_k101 := hH.ext.cell k101; have c_hq1 := hH.ext.cell hq1
       go_simp
       refine hK.out _ ?_ _ ?_ ?_; rotate_left 2
       · (try simp only [r6]); rfl
       exact ⟨hH, v0, v1, v2, v3, v4, v5, v6, fun _ => rfl, v8, v9, v10, v11, v12, v13, v14⟩
     refine AllSteps.cons (j := 9) rfl (fun b t wx hJ hb hd hcl Kc hK => ?_) ?_
     · obtain ⟨hH, v0, v1, v2, v3, v4, v5, v6, v7, v8, v9, v10, v11, v12, v13, v14⟩ := hJ
       have d7 := hd.out 7 (by kernel_rfl); have r7 := v7 d7; have c_k101 := hH.ext.cell k101; have c_hq1 := hH.ext.cell hq1
       go_simp
       refine hK.out _ ?_ _ ?_ ?_; rotate_left 2
       · (try simp only [r7]); rfl
       exact ⟨hH, v0, v1, v2, v3, v4, v5, v6, v7, fun _ => rfl, v9, v10, v11, v12, v13, v14⟩
     refine AllSteps.cons (j := 10) rfl (fun b t wx hJ hb hd hcl Kc hK => ?_) ?_
     · obtain ⟨hH, v0, v1, v2, v3, v4, v5, v6, v7, v8, v9, v10, v11, v12, v13, v14⟩ := hJ
       have d8 := hd.out 8 (by kernel_rfl); have r8 := v8 d8; have c_k101 := hH.ext.cell k101; have c_hq1 := hH.ext.cell hq1
       go_simp
       refine hK.out _ ?_ _ ?_ ?_; rotate_left 2
       · (try simp only [r8]); rfl
       exact ⟨hH, v0, v1, v2, v3, v4, v5, v6, v7, v8, fun _ => rfl, v10, v11, v12, v13, v14⟩
     refine AllSteps.cons (j := 11) rfl (fun b t wx hJ hb hd hcl Kc hK => ?_) ?_
     · obtain ⟨hH, v0, v1, v2, v3, v4, v5, v6, v7, v8, v9, v10, v11, v12, v13, v14⟩ := hJ
       have d3 := hd.out 3 (by kernel_rfl); have d9 := hd.out 9 (by kernel_rfl); have r3 := v3 d3; have r9 := v9 d9; have c_k101 := hH.ext.cell k101; have c_hq1 := hH.ext.cell hq1
       go_simp
       refine hK.out _ ?_ _ ?_ ?_; rotate_left 2
       · (try simp only [r3, r9]); rfl
       exact ⟨hH, v0, v1, v2, v3, v4, v5, v6, v7, v8, v9, fun _ => rfl, v11, v12, v13, v14⟩
     refine AllSteps.cons (j := 12) rfl (fun b t wx hJ hb hd hcl Kc hK => ?_) ?_
     · obtain ⟨hH, v0, v1, v2, v3, v4, v5, v6, v7, v8, v9, v10, v11, v12, v13, v14⟩ := hJ
       have d10 := hd.out 10 (by kernel_rfl); have r10 := v10 d10; have c_k101 := hH.ext.cell k101; have c_hq1 := hH.ext.cell hq1
       go_simp
       refine hK.out _ ?_ _ ?_ ?_; rotate_left 2
       · (try simp only [r10]); rfl
       exact ⟨hH, v0, v1, v2, v3, v4, v5, v6, v7, v8, v9, v10, fun _ => rfl, v12, v13, v14⟩
     refine AllSteps.cons (j := 13) rfl (fun b t wx hJ hb hd hcl Kc hK => ?_) ?_
     · obtain ⟨hH, v0, v1, v2, v3, v4, v5, v6, v7, v8, v9, v10, v11, v12, v13, v14⟩ := hJ
       have d11 := hd.out 11 (by kernel_rfl); have r11 := v11 d11; have c_k101 := hH.ext.cell k101; have c_hq1 := hH.ext.cell hq1
       go_simp
       refine hK.out _ ?_ _ ?_ ?_; rotate_left 2
       · (try simp only [r11]); rfl
       exact ⟨hH, v0, v1, v2, v3, v4, v5, v6, v7, v8, v9, v10, v11, fun _ => rfl, v13, v14⟩
     refine AllSteps.cons (j := 14) rfl (fun b t wx hJ hb hd hcl Kc hK => ?_) ?_
     · obtain ⟨hH, v0, v1, v2, v3, v4, v5, v6, v7, v8, v9, v10, v11, v12, v13, v14⟩ := hJ
       have d12 := hd.out 12 (by kernel_rfl)
       have n14 : b 14 = false := Bool.eq_false_iff.2 fun h => absurd (hcl.out 14 13 (by kernel_rfl) (h)) (by rw [hb]; exact Bool.false_ne_true)
       have r12 := v12 d12
       have hN := hH; (try simp only [hb, d12, n14, cond_true, cond_false] at hN)
       go_simp
       go_at_call 100
       refine (copyInts_any _ l _ (hI.ext hH.ext) (by omega)).mono ?_; rintro e13 w13 ⟨v4, rfl, o4, h4⟩
       obtain ⟨x4, c4, rfl, _, _⟩ := o4.ints.val
       (try go_simp)
       refine hK.out _ ?_ _ ?_ ?_; rotate_left 2
       · (try simp only [r12]); rfl
       exact ⟨by have hX := hN.addI 0 h4 o4 (Nat.le_refl _); simpa only [List.set_cons_zero, List.set_cons_succ, updB, updV, blkOf_mk, tup0_mk, partsOf3, Nat.reduceBEq, cond_true, cond_false, hb, d12, n14, r12] using hX, v0, v1, v2, v3, v4, v5, v6, v7, v8, v9, v10, v11, v12, fun _ => ⟨_, _, rfl⟩, fun h => absurd (show b 14 = true from h) (by rw [n14]; exact Bool.false_ne_true)⟩
     refine AllSteps.cons (j := 15) rfl (fun b t wx hJ hb hd hcl Kc hK => ?_) ?_
     · obtain ⟨hH, v0, v1, v2, v3, v4, v5, v6, v7, v8, v9, v10, v11, v12, v13, v14⟩ := hJ
       have d0 := hd.out 0 (by kernel_rfl); have d1 := hd.out 1 (by kernel_rfl); have d2 := hd.out 2 (by kernel_rfl); have d3 := hd.out 3 (by kernel_rfl); have d4 := hd.out 4 (by kernel_rfl); have d5 := hd.out 5 (by kernel_rfl); have d6 := hd.out 6 (by kernel_rfl); have d7 := hd.out 7 (by kernel_rfl); have d8 := hd.out 8 (by kernel_rfl); have d9 := hd.out 9 (by kernel_rfl); have d10 := hd.out 10 (by kernel_rfl); have d11 := hd.out 11 (by kernel_rfl); have d12 := hd.out 12 (by kernel_rfl); have d13 := hd.out 13 (by kernel_rfl); have r0 := v0 d0; have r1 := v1 d1; have r2 := v2 d2; have r3 := v3 d3; have r4 := v4 d4; have r5 := v5 d5; have r6 := v6 d6; have r7 := v7 d7; have r8 := v8 d8; have r9 := v9 d9; have r10 := v10 d10; have r11 := v11 d11; have r12 := v12 d12; have r13 := v13 d13
       obtain ⟨x_13, c_13, r13⟩ := r13
       have c_k101 := hH.ext.cell k101; have c_hq1 := hH.ext.cell hq1
       go_simp
       refine hK.out _ ?_ _ ?_ ?_; rotate_left 2
       · (try simp only [r0, r1, r2, r3, r4, r5, r6, r7, r8, r9, r10, r11, r12, r13]); rfl
       exact ⟨hH, v0, v1, v2, v3, v4, v5, v6, v7, v8, v9, v10, v11, v12, v13, fun _ => (by first | rfl | exact r13.symm)⟩
     exact AllSteps.nil
   case hEa =>
    intro b t wa hJ hall
    obtain ⟨hHa, v0, v1, v2, v3, v4, v5, v6, v7, v8, v9, v10, v11, v12, v13, v14⟩ := hJ
    have a0 := hall 0 (by decide); have a1 := hall 1 (by decide); have a2 := hall 2 (by decide); have a3 := hall 3 (by decide); have a4 := hall 4 (by decide); have a5 := hall 5 (by decide); have a6 := hall 6 (by decide); have a7 := hall 7 (by decide); have a8 := hall 8 (by decide); have a9 := hall 9 (by decide); have a10 := hall 10 (by decide); have a11 := hall 11 (by decide); have a12 := hall 12 (by decide); have a13 := hall 13 (by decide); have a14 := hall 14 (by decide)
    (try simp only [a0, a1, a2, a3, a4, a5, a6, a7, a8, a9, a10, a11, a12, a13, a14, cond_true] at hHa)
    replace v0 := v0 a0; replace v1 := v1 a1; replace v2 := v2 a2; replace v3 := v3 a3; replace v4 := v4 a4; replace v5 := v5 a5; replace v6 := v6 a6; replace v7 := v7 a7; replace v8 := v8 a8; replace v9 := v9 a9; replace v10 := v10 a10; replace v11 := v11 a11; replace v12 := v12 a12; replace v13 := v13 a13; replace v14 := v14 a14
    clear hall a0 a1 a2 a3 a4 a5 a6 a7 a8 a9 a10 a11 a12 a13 a14
    generalize t 14 = x14 at hHa v14 ⊢; generalize t 13 = x13 at hHa v13 v14 ⊢; generalize t 12 = x12 at hHa v12 ⊢; generalize t 11 = x11 at hHa v11 ⊢; generalize t 10 = x10 at hHa v10 ⊢; generalize t 9 = x9 at hHa v9 ⊢; generalize t 8 = x8 at hHa v8 ⊢; generalize t 7 = x7 at hHa v7 ⊢; generalize t 6 = x6 at hHa v6 ⊢; generalize t 5 = x5 at hHa v5 ⊢; generalize t 4 = x4 at hHa v4 ⊢; generalize t 3 = x3 at hHa v3 ⊢; generalize t 2 = x2 at hHa v2 ⊢; generalize t 1 = x1 at hHa v1 ⊢; generalize t 0 = x0 at hHa v0 ⊢; subst v0; subst v1; subst v2; subst v3; subst v4; subst v5; subst v6; subst v7; subst v8; subst v9; subst v10; subst v11; subst v12
    obtain ⟨xa13, ca13, rfl⟩ := v13
    subst v14
    clear b
    replace hH := hHa; clear hHa
    replace hH : Held w3 wa [aI (.slice xa13 l.length ca13) l] := hH
    have HO := Lib.hid (hH.own (k := 0) rfl); have HX := Lib.hid (hE.trans hH.ext); have hEs := hE.size; clear hH hI hq0 hq1 k101 hLv hS hE
    go_wp2
    go_ret
    exact ⟨_, rfl, by rw [HRS.out]; exact HO.out.mono hEs, HX.out⟩
end Go.Proofs.Ytpegckmagiaggaa
