/- MakeOrder, OrderCost. -/
import Derived.Test.YtpegckmagiaggaaTOrdM
import Derived.Test.YtpegckmagiaggaaTOrdCC
set_option linter.unusedSimpArgs false
set_option linter.unusedVariables false
namespace Go.Proofs.Ytpegckmagiaggaa
open Go.RowKit
set_option maxRecDepth 100000 in
set_option maxHeartbeats 4000000 in
theorem makeOrder_any (v : Value) (l : List Int) (c : Int) {k p n : Int} (hr : ringOk k p n = true) {dm : Int → Int} {U : List Int} {ts : List (NT k p n)} {op : List Int} (hN : IsN k p n dm U ts op) (tv ov : Value) (w : World) (hT : TensS w tv (ts.map (tenOf dm))) (hO : IntS w ov op) (hl : Code w v l) (hn : 0 ≤ c ∧ c ≤ 1000000) :
 Calls Try.prog 51 #[v, .int .i64 c, .agg #[.int .i64 k, .int .i64 p, .int .i64 n, tv, ov]] w fun e w' => ∃ u os, e = .returned u ∧ Held w w' [aSt u os] ∧ okO (numL ts.length) (ts.length : Int) os ∧ os.length = ts.length - 1 := by
 have hT0 := hT
 have hO0 := hO
 obtain ⟨m, hm⟩ : ∃ m, ts.length = m := ⟨_, rfl⟩
 obtain ⟨aV, cV, rfl, hcT1, hcT2⟩ := hT.val
 obtain ⟨aO, cO, rfl, hcO1, hcO2⟩ := hO.val
 rw [List.length_map, hm] at hT hT0 hcT1
 rw [List.length_map, hm]
 have hm12 : m ≤ 12 := by rw [← hm]; exact hN.len
 have hop12 : op.length ≤ 12 := hN.rank
 have HM := Lib.hid hm; have HR := Lib.hid hr; have HN := Lib.hid hN; have HD3 := Lib.hid hN.dims3; clear hm hr hN
 have hTl : Hid ((ts.map (tenOf dm)).length = m) := Lib.hid (by rw [List.length_map]; exact HM.out)
 have hl0 := hl
 obtain ⟨a, cap, rfl, hc1, hc2⟩ := hl.bytes.val
 have HL := Lib.hid hl0; clear hl0
 go_enter Try.func51, Try.ntmps51
 go_upto_region 1 with fail
 have hH : Held w w [] := Held.new (Ext.refl w) 0
 have hB : Held w (w.alloc (.cells #[.int .i64 k, .int .i64 p, .int .i64 n, .slice aV m cV, .slice aO op.length cO] 29)) [aB (w.heap.size) 29 [.int .i64 k, .int .i64 p, .int .i64 n, .slice aV m cV, .slice aO op.length cO]] := by
  have h := (hH.mores 1).addB 0 #[.int .i64 k, .int .i64 p, .int .i64 n, .slice aV m cV, .slice aO op.length cO] 29
  exact h
 have hsz : (w.alloc (.cells #[.int .i64 k, .int .i64 p, .int .i64 n, .slice aV m cV, .slice aO op.length cO] 29)).heap.size = w.heap.size + 1 := by simp
 generalize w.alloc (.cells #[.int .i64 k, .int .i64 p, .int .i64 n, .slice aV m cV, .slice aO op.length cO] 29) = wn1 at hB hsz ⊢
 replace hH := hB; have HSZwn1 := Lib.hid hsz; clear hB hsz
 replace hH := hH.mores 1
 replace hH : Held w wn1 [aB (w.heap.size) 29 [.int .i64 k, .int .i64 p, .int .i64 n, .slice aV m cV, .slice aO op.length cO], emp] := hH
 refine wp_region_steps ?Fa (fun b t wx => ∃ (cb : Nat), ∃ (os : List (Int × Int)), Held w wx [aB (w.heap.size) 29 [.int .i64 k, .int .i64 p, .int .i64 n, .slice aV m cV, .slice aO op.length cO], (bif b 6 then aSt (t 6) os else emp)] ∧ (b 2 = true → w.heap.size + 1 ≤ cb) ∧ (b 2 = true → (b 6 = true ∨ Cur wx cb l)) ∧ (b 6 = true → Hid (okO (numL m) (m : Int) os ∧ os.length = m - 1)) ∧ (b 0 = true → t 0 = .slice a l.length cap) ∧ (b 1 = true → t 1 = .int .i64 c) ∧ (b 2 = true → t 2 = .pointer (some ⟨cb, 0, none⟩)) ∧ (b 3 = true → t 3 = .pointer (some ⟨w.heap.size, 3, none⟩)) ∧ (b 4 = true → t 4 = .slice aV m cV) ∧ (b 5 = true → t 5 = .int .i64 (m : Int)) ∧ (b 6 = true → ∃ x c, t 6 = .slice x os.length c) ∧ (b 7 = true → t 7 = t 6)) ?hFa (by kernel_rfl) (by kernel_rfl) ?hJa ?hSa ?hEa
 (case hFa => intro t; simp only [putAll, Act.put, List.setIfInBounds_toArray, List.set_cons_zero, List.set_cons_succ, Nat.reduceAdd, Nat.zero_add]; exact rfl)
 case hJa => exact ⟨0, [], hH.grow ((Ext.refl _).drew), fun h => absurd h Bool.false_ne_true, fun h => absurd h Bool.false_ne_true, fun h => absurd h Bool.false_ne_true, fun h => absurd h Bool.false_ne_true, fun h => absurd h Bool.false_ne_true, fun h => absurd h Bool.false_ne_true, fun h => absurd h Bool.false_ne_true, fun h => absurd h Bool.false_ne_true, fun h => absurd h Bool.false_ne_true, fun h => absurd h Bool.false_ne_true, fun h => absurd h Bool.false_ne_true⟩
 case hSa => as_aux_lemma =>
   refine AllSteps.cons (j := 1) rfl (fun b t wx hJ hb hd hcl Kc hK => ?_) ?_
   · obtain ⟨cb, os, hH, hcb, hC, hO, v0, v1, v2, v3, v4, v5, v6, v7⟩ := hJ
     go_simp
     refine hK.out _ ?_ _ ?_ ?_; rotate_left 2
     · rfl
     exact ⟨cb, os, hH, hcb, hC, hO, fun _ => rfl, v1, v2, v3, v4, v5, v6, v7⟩
   refine AllSteps.cons (j := 2) rfl (fun b t wx hJ hb hd hcl Kc hK => ?_) ?_
   · obtain ⟨cb, os, hH, hcb, hC, hO, v0, v1, v2, v3, v4, v5, v6, v7⟩ := hJ
     go_simp
     refine hK.out _ ?_ _ ?_ ?_; rotate_left 2
     · rfl
     exact ⟨cb, os, hH, hcb, hC, hO, v0, fun _ => rfl, v2, v3, v4, v5, v6, v7⟩
   refine AllSteps.cons (j := 3) rfl (fun b t wx hJ hb hd hcl Kc hK => ?_) ?_
   · obtain ⟨cb, os, hH, hcb, hC, hO, v0, v1, v2, v3, v4, v5, v6, v7⟩ := hJ
     have d0 := hd.out 0 (by kernel_rfl); have d1 := hd.out 1 (by kernel_rfl)
     have n6 : b 6 = false := Bool.eq_false_iff.2 fun h => absurd (hcl.out 6 2 (by kernel_rfl) (h)) (by rw [hb]; exact Bool.false_ne_true)
     have r0 := v0 d0; have r1 := v1 d1
     have hN := hH; (try simp only [hb, d0, d1, n6, cond_true, cond_false] at hN)
     go_simp
     go_at_call 84
     refine (l45At_any _ l c _ (HL.out.ext hH.ext) hn).mono ?_; rintro e2 w2 ⟨cb', rfl, hb', c1, h1⟩
     (try go_simp)
     refine hK.out _ ?_ _ ?_ ?_; rotate_left 2
     · (try simp only [r0, r1]); rfl
     exact ⟨cb', os, by have hX := hN.grow h1; simpa only [List.set_cons_zero, List.set_cons_succ, updB, updV, blkOf_mk, tup0_mk, partsOf3, Nat.reduceBEq, cond_true, cond_false, hb, d0, d1, n6, r0, r1] using hX, (fun _ => by have h := (hN.fpr (k := 0) rfl (w.heap.size) (by simp [aB])).2; omega), (fun _ => .inr c1), (fun h => absurd (show b 6 = true from h) (by rw [n6]; exact Bool.false_ne_true)), v0, v1, fun _ => rfl, v3, v4, v5, v6, v7⟩
   refine AllSteps.cons (j := 4) rfl (fun b t wx hJ hb hd hcl Kc hK => ?_) ?_
   · obtain ⟨cb, os, hH, hcb, hC, hO, v0, v1, v2, v3, v4, v5, v6, v7⟩ := hJ
     go_simp
     refine hK.out _ ?_ _ ?_ ?_; rotate_left 2
     · rfl
     exact ⟨cb, os, hH, hcb, hC, hO, v0, v1, v2, fun _ => rfl, v4, v5, v6, v7⟩
   refine AllSteps.cons (j := 5) rfl (fun b t wx hJ hb hd hcl Kc hK => ?_) ?_
   · obtain ⟨cb, os, hH, hcb, hC, hO, v0, v1, v2, v3, v4, v5, v6, v7⟩ := hJ
     have d3 := hd.out 3 (by kernel_rfl); have r3 := v3 d3; have q0_3 := hH.cl 0 3 rfl rfl
     go_simp
     refine hK.out _ ?_ _ ?_ ?_; rotate_left 2
     · (try simp only [r3]); rfl
     exact ⟨cb, os, hH, hcb, hC, hO, v0, v1, v2, v3, fun _ => rfl, v5, v6, v7⟩
   refine AllSteps.cons (j := 6) rfl (fun b t wx hJ hb hd hcl Kc hK => ?_) ?_
   · obtain ⟨cb, os, hH, hcb, hC, hO, v0, v1, v2, v3, v4, v5, v6, v7⟩ := hJ
     have d4 := hd.out 4 (by kernel_rfl); have r4 := v4 d4
     go_simp
     refine hK.out _ ?_ _ ?_ ?_; rotate_left 2
     · (try simp only [r4]); rfl
     exact ⟨cb, os, hH, hcb, hC, hO, v0, v1, v2, v3, v4, fun _ => rfl, v6, v7⟩
   refine AllSteps.cons (j := 7) rfl (fun b t wx hJ hb hd hcl Kc hK => ?_) ?_
   · obtain ⟨cb, os, hH, hcb, hC, hO, v0, v1, v2, v3, v4, v5, v6, v7⟩ := hJ
     have d2 := hd.out 2 (by kernel_rfl); have d5 := hd.out 5 (by kernel_rfl)
     have n7 : b 7 = false := Bool.eq_false_iff.2 fun h => absurd (hcl.out 7 6 (by kernel_rfl) (h)) (by rw [hb]; exact Bool.false_ne_true)
     have r2 := v2 d2; have r5 := v5 d5
     have hN := hH; (try simp only [hb, d2, d5, n7, cond_true, cond_false] at hN)
     go_simp
     go_at_call 134
     refine (l17Order_any cb m hm12 _ ((hC d2).resolve_left (by rw [hb]; exact Bool.false_ne_true))).mono ?_; rintro e6 w6 ⟨v, os', rfl, hH2, HOK, HOL, c2⟩
     have hq := hcb d2
     obtain ⟨b1, q1, rfl, _, _⟩ := (hH2.steps (k := 0) rfl).val
     have HQ := Lib.hid hq; have HOH := Lib.hid (And.intro HOK HOL); clear hq HOK HOL
     (try go_simp)
     refine hK.out _ ?_ _ ?_ ?_; rotate_left 2
     · (try simp only [r2, r5]); rfl
     exact ⟨cb, os', by have hX := (hN.join hH2 (fun z hz => by cases hz; have := HQ.out; exact ⟨by omega, fun A hA hc => by simp at hA; rcases hA with rfl | rfl <;> simp [aB, emp] at hc <;> omega⟩)).sub (.cons_cons _ (.cons _ (.cons_cons _ .slnil))); simpa only [List.set_cons_zero, List.set_cons_succ, updB, updV, blkOf_mk, tup0_mk, partsOf3, Nat.reduceBEq, cond_true, cond_false, hb, d2, d5, n7, r2, r5] using hX, hcb, (fun _ => .inl rfl), (fun _ => HOH), v0, v1, v2, v3, v4, v5, fun _ => ⟨_, _, rfl⟩, fun h => absurd (show b 7 = true from h) (by rw [n7]; exact Bool.false_ne_true)⟩
   refine AllSteps.cons (j := 8) rfl (fun b t wx hJ hb hd hcl Kc hK => ?_) ?_
   · obtain ⟨cb, os, hH, hcb, hC, hO, v0, v1, v2, v3, v4, v5, v6, v7⟩ := hJ
     have d0 := hd.out 0 (by kernel_rfl); have d1 := hd.out 1 (by kernel_rfl); have d2 := hd.out 2 (by kernel_rfl); have d3 := hd.out 3 (by kernel_rfl); have d4 := hd.out 4 (by kernel_rfl); have d5 := hd.out 5 (by kernel_rfl); have d6 := hd.out 6 (by kernel_rfl); have r0 := v0 d0; have r1 := v1 d1; have r2 := v2 d2; have r3 := v3 d3; have r4 := v4 d4; have r5 := v5 d5; have r6 := v6 d6
     obtain ⟨x_6, c_6, r6⟩ := r6
     go_simp
     refine hK.out _ ?_ _ ?_ ?_; rotate_left 2
     · (try simp only [r0, r1, r2, r3, r4, r5, r6]); rfl
     exact ⟨cb, os, hH, hcb, hC, hO, v0, v1, v2, v3, v4, v5, v6, fun _ => (by first | rfl | exact r6.symm)⟩
   exact AllSteps.nil
 case hEa =>
  intro b t wa hJ hall
  obtain ⟨cba, osa, hHa, hcba, hCa, hOa, v0, v1, v2, v3, v4, v5, v6, v7⟩ := hJ
  have a0 := hall 0 (by decide); have a1 := hall 1 (by decide); have a2 := hall 2 (by decide); have a3 := hall 3 (by decide); have a4 := hall 4 (by decide); have a5 := hall 5 (by decide); have a6 := hall 6 (by decide); have a7 := hall 7 (by decide)
  (try simp only [a0, a1, a2, a3, a4, a5, a6, a7, cond_true] at hHa)
  replace v0 := v0 a0; replace v1 := v1 a1; replace v2 := v2 a2; replace v3 := v3 a3; replace v4 := v4 a4; replace v5 := v5 a5; replace v6 := v6 a6; replace v7 := v7 a7
  replace hcba := hcba a2
  replace hCa := hCa a2
  replace hOa := hOa a6
  clear hall a0 a1 a2 a3 a4 a5 a6 a7
  generalize t 7 = x7 at hHa v7 ⊢; generalize t 6 = x6 at hHa v6 v7 ⊢; generalize t 5 = x5 at hHa v5 ⊢; generalize t 4 = x4 at hHa v4 ⊢; generalize t 3 = x3 at hHa v3 ⊢; generalize t 2 = x2 at hHa v2 ⊢; generalize t 1 = x1 at hHa v1 ⊢; generalize t 0 = x0 at hHa v0 ⊢; subst v0; subst v1; subst v2; subst v3; subst v4; subst v5
  obtain ⟨xa6, ca6, rfl⟩ := v6
  subst v7
  clear hCa
  clear b
  replace hH := hHa; clear hHa
  replace hH : Held w wa [aB (w.heap.size) 29 [.int .i64 k, .int .i64 p, .int .i64 n, .slice aV m cV, .slice aO op.length cO], aSt (.slice xa6 osa.length ca6) osa] := hH
  have HO := hOa; have HH := Lib.hid (hH.sub (L' := [aSt (.slice xa6 osa.length ca6) osa]) (.cons _ (.cons_cons _ .slnil))); clear hH
  go_wp2
  go_ret
  exact ⟨_, osa, rfl, HH.out, HO.out.1, HO.out.2⟩
set_option maxRecDepth 100000 in
set_option maxHeartbeats 4000000 in
theorem orderCost_any {k p n : Int} (hr : ringOk k p n = true) {dm : Int → Int} {U : List Int} {ts : List (NT k p n)} {op : List Int} (hN : IsN k p n dm U ts op) (tv ov : Value) (w : World) (hT : TensS w tv (ts.map (tenOf dm))) (hO : IntS w ov op) {os : List (Int × Int)} (hok : okO (numL ts.length) (ts.length : Int) os) (hol : os.length = ts.length - 1) (vo : Value) (hVo : StepsS w vo os) :
 Calls Try.prog 56 #[.agg #[.int .i64 k, .int .i64 p, .int .i64 n, tv, ov], vo] w fun e w' => e = .returned (.int .i64 (costsT hr dm op (numL ts.length) (ts.length : Int) ts os os.length).sum) ∧ Ext w w' := by
 have hT0 := hT
 have hO0 := hO
 obtain ⟨m, hm⟩ : ∃ m, ts.length = m := ⟨_, rfl⟩
 obtain ⟨aV, cV, rfl, hcT1, hcT2⟩ := hT.val
 obtain ⟨aO, cO, rfl, hcO1, hcO2⟩ := hO.val
 rw [List.length_map, hm] at hT hT0 hcT1
 rw [List.length_map, hm]
 have hm12 : m ≤ 12 := by rw [← hm]; exact hN.len
 have hop12 : op.length ≤ 12 := hN.rank
 have HM := Lib.hid hm; have HR := Lib.hid hr; have HN := Lib.hid hN; have HD3 := Lib.hid hN.dims3; clear hm  hN
 have hTl : Hid ((ts.map (tenOf dm)).length = m) := Lib.hid (by rw [List.length_map]; exact HM.out)
 have hsum := costs_sum (hr := hr) hok (numL_len _) HN.out
 rw [HM.out] at hsum
 obtain ⟨CS, hCS⟩ : ∃ q, costsT hr dm op (numL m) (m : Int) ts os os.length = q := ⟨_, rfl⟩
 have hcl : CS.length = os.length := by rw [← hCS]; exact costsT_len _
 have HPS : Hid (∀ q, q ≤ os.length → 0 ≤ (CS.take q).sum ∧ (CS.take q).sum ≤ 4096 * q) := Lib.hid fun q hq => by
  have h := hsum q hq
  have e : CS.take q = costsT hr dm op (numL m) (m : Int) ts os q := by rw [← hCS]; unfold costsT; rw [← List.map_take, List.take_range, Nat.min_eq_left hq]
  rw [e]; exact h
 rw [hCS]
 have HCS := Lib.hid hCS; have HCL := Lib.hid hcl; clear hCS hcl hsum
 have hm2 := HM
 obtain ⟨aQ, cQ, rfl, hcq1, hcq2⟩ := hVo.val
 have HOK := Lib.hid hok; have HOL := Lib.hid hol
 have hol2 : os.length ≤ m := by rw [← hm2.out]; omega
 clear hok hol
 go_enter Try.func56, Try.ntmps56
 go_upto_region 1 with fail
 have hH : Held w w [] := Held.new (Ext.refl w) 0
 have hB : Held w (w.alloc (.cells #[.int .i64 k, .int .i64 p, .int .i64 n, .slice aV m cV, .slice aO op.length cO] 29)) [aB (w.heap.size) 29 [.int .i64 k, .int .i64 p, .int .i64 n, .slice aV m cV, .slice aO op.length cO]] := by
  have h := (hH.mores 1).addB 0 #[.int .i64 k, .int .i64 p, .int .i64 n, .slice aV m cV, .slice aO op.length cO] 29
  exact h
 have hsz : (w.alloc (.cells #[.int .i64 k, .int .i64 p, .int .i64 n, .slice aV m cV, .slice aO op.length cO] 29)).heap.size = w.heap.size + 1 := by simp
 generalize w.alloc (.cells #[.int .i64 k, .int .i64 p, .int .i64 n, .slice aV m cV, .slice aO op.length cO] 29) = wn1 at hB hsz ⊢
 replace hH := hB; have HSZwn1 := Lib.hid hsz; clear hB hsz
 have q0_0 := hH.cl 0 0 rfl rfl; have q0_1 := hH.cl 0 1 rfl rfl; have q0_2 := hH.cl 0 2 rfl rfl; have q0_3 := hH.cl 0 3 rfl rfl; have q0_4 := hH.cl 0 4 rfl rfl; have l0_ := hH.bl 0 rfl
 go_wp2_with fail
 clear q0_0 q0_1 q0_2 q0_3 q0_4 l0_
 refine (orderOk_any HR.out HN.out _ _ _ (hT0.ext hH.ext) (hO0.ext hH.ext) HOK.out HOL.out _ (hVo.ext hH.ext)).mono ?_; rintro e0 w0 ⟨rfl, h0⟩
 replace hH := hH.grow h0; clear h0
 have q0_0 := hH.cl 0 0 rfl rfl; have q0_1 := hH.cl 0 1 rfl rfl; have q0_2 := hH.cl 0 2 rfl rfl; have q0_3 := hH.cl 0 3 rfl rfl; have q0_4 := hH.cl 0 4 rfl rfl; have l0_ := hH.bl 0 rfl
 go_wp2_with fail
 clear q0_0 q0_1 q0_2 q0_3 q0_4 l0_
 refine (orderCosts_any HR.out HN.out _ _ _ (hT0.ext hH.ext) (hO0.ext hH.ext) HOK.out HOL.out _ (hVo.ext hH.ext)).mono ?_; rintro e1 w1 ⟨u, rfl, ou, h1⟩
 rw [HM.out, HCS.out] at ou
 obtain ⟨aC, cC, rfl⟩ := ou.shape1 CS.length rfl
 have hE : Ext w w1 := hH.ext.trans h1
 have hI := ou.ints
 have HE := Lib.hid hE; have HU := Lib.hid ou
 have hol12 : os.length ≤ 12 := by omega
 clear hH h1 ou hE
 obtain ⟨N1, hN1⟩ : ∃ q, CS.length = q := ⟨_, rfl⟩
 have HN1 := Lib.hid hN1
 have hn12 : N1 ≤ 12 := by rw [← hN1, HCL.out]; exact hol12
 rw [hN1] at hI ⊢
 clear hN1
 go_wp2_with fail
 go_loop [5, 16] (fun q i => ∃ (j : Nat) (z : Int), j ≤ N1 ∧ i = .int .i64 (j : Int) ∧ q = .int .i64 z ∧ 0 ≤ z ∧ z ≤ 4096 * j ∧ Hid ((CS.take j).sum = z)) (fun q i => N1 - (RowKit.intOf i).toNat)
 case atStart => exact ⟨0, 0, Nat.zero_le _, rfl, rfl, Int.le_refl _, by simp, Lib.hid rfl⟩
 case round =>
  obtain ⟨j, z, hj, rfl, rfl, hz0, hz1, HZ⟩ := hrel
  by_cases hlt : j < N1
  ·
   obtain ⟨bD, oD, d, rfl, hc0, hx, _⟩ := hI.get (i := j) (by rw [HN1.out]; exact hlt)
   have hst : (CS.take (j + 1)).sum = z + d := by rw [List.take_add_one, hx, List.sum_append, HZ.out]; simp
   have hbd := HPS.out (j + 1) (by rw [← HCL.out, HN1.out]; exact hlt)
   rw [hst] at hbd
   have HST := Lib.hid hst
   obtain ⟨z2, hz2⟩ : ∃ z2, z + d = z2 := ⟨_, rfl⟩
   rw [hz2] at hbd HST
   have hwr : IntKind.i64.wrap z2 = z2 := by rw [IntKind.wrap_i64]; push_cast at hbd; omega
   obtain ⟨hb1, hb2⟩ := hbd
   have HB2 := Lib.hid hb2
   clear hst hx hb2
   go_wp2_with fail
   go_round
   case rel => exact ⟨j + 1, z2, by omega, by go_num, by first | rfl | go_num, hb1, HB2.out, HST⟩
   case measure => simp [RowKit.intOf]; omega
  ·
   have hje : j = N1 := by omega
   subst hje
   have hs := HZ.out
   rw [List.take_of_length_le (by rw [HN1.out]; exact Nat.le_refl _)] at hs
   have HS := Lib.hid hs
   have hmin : min z 1000000000 = z := Int.min_eq_left (by omega)
   have hn1 : z ≤ 1000000000 := by omega
   have hn2 : ¬ (1000000000 : Int) < z := by omega
   clear hs
   go_wp2
   go_ret
   exact ⟨by rw [HS.out]; rfl, HE.out⟩
end Go.Proofs.Ytpegckmagiaggaa
