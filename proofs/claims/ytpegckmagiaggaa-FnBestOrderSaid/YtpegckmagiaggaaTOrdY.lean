/- resultLabels of an order's state. -/
import Derived.Test.YtpegckmagiaggaaTOrdX
set_option linter.unusedSimpArgs false
set_option linter.unusedVariables false
namespace Go.Proofs.Ytpegckmagiaggaa
open Go.RowKit
theorem hasL_app (a b : List Int) (x : Int) : hasL (a ++ b) x = (hasL a x || hasL b x) := by
  rw [Bool.eq_iff_iff, Bool.or_eq_true, hasL_iff, hasL_iff, hasL_iff, List.mem_append]
def seenL (op : List Int) (ls : List (List Int)) (i j q : Nat) (x : Int) : Bool := hasL (op ++ (dropGo ls i j q).flatten) x
theorem seenL_0 (op : List Int) (ls : List (List Int)) (i j : Nat) (x : Int) : seenL op ls i j 0 x = hasL op x := by
  unfold seenL dropGo; simp
theorem seenL_no {op : List Int} {ls : List (List Int)} {i j q : Nat} {x : Int} (h : q = i ∨ q = j) : seenL op ls i j (q + 1) x = seenL op ls i j q x := by
  unfold seenL; rw [dropGo_no h]
theorem seenL_yes {op : List Int} {ls : List (List Int)} {i j q : Nat} {x : Int} (h : ¬ (q = i ∨ q = j)) {l : List Int} (hl : ls[q]? = some l) : seenL op ls i j (q + 1) x = (seenL op ls i j q x || hasL l x) := by
  unfold seenL; rw [dropGo_yes h hl, List.flatten_append, ← List.append_assoc, hasL_app, List.flatten_singleton]
theorem seenL_end {op : List Int} {ls : List (List Int)} {i j m : Nat} {x : Int} (hm : ls.length = m) : seenL op ls i j m x = hasL (resK op ls i j) x := by
  unfold seenL resK drop2; rw [hm]
set_option maxRecDepth 100000 in
set_option maxHeartbeats 8000000 in
theorem resultLabels_any {s : Nat} {A op : List Int} {cs : List (Int × Value)} {ls : List (List Int)} {nx : Int} (hal : A.length = 100) (w : World) (hS : OrdS w s A op cs ls nx) (hlen : ls.length ≤ 1000) (hrk : ∀ l ∈ ls, l.length ≤ 500) (i j : Nat) (hi : i < ls.length) (hj : j < ls.length) :
 Calls Try.prog 141 #[.pointer (some ⟨s, 0, none⟩), .int .i64 (i : Int), .int .i64 (j : Int)] w fun e w' => ∃ u, e = .returned u ∧ OwnI w' w.heap.size u (resL op ls i j) ∧ Ext w w' := by
 obtain ⟨RK, hRK⟩ : ∃ q, resK op ls i j = q := ⟨_, rfl⟩
 have HSE : Hid (∀ x, seenL op ls i j ls.length x = hasL RK x) := Lib.hid fun x => by rw [← hRK]; exact seenL_end rfl
 have HS0 := Lib.hid (seenL_0 op ls i j)
 have HSN := Lib.hid (fun (q : Nat) (x : Int) (h : q = i ∨ q = j) => seenL_no (op := op) (ls := ls) (x := x) h)
 have HSY := Lib.hid (fun (q : Nat) (x : Int) (h : ¬ (q = i ∨ q = j)) (l : List Int) (hl : ls[q]? = some l) => seenL_yes (op := op) (x := x) h hl)
 obtain ⟨SE, hSE⟩ : ∃ q, seenL op ls i j = q := ⟨_, rfl⟩
 rw [hSE] at HSE HS0 HSN HSY
 have HRL : Hid (resL op ls i j = keepL (joinL (labAt ls i) (labAt ls j)) RK) := Lib.hid (by unfold resL; rw [hRK])
 clear hRK hSE
 have HRK := Lib.hid hrk; clear hrk
 obtain ⟨ov, lv, hB, hov, hovs, hLv⟩ := hS.has
 obtain ⟨aV, cV, rfl, hcV1, hcV2⟩ := hLv.val
 obtain ⟨aO, cO, rfl, hcO1, hcO2⟩ := hov.val
 obtain ⟨m, hm⟩ : ∃ m, ls.length = m := ⟨_, rfl⟩
 rw [hm] at hLv hcV1 hlen hB
 have HM := Lib.hid hm
 have hcm : cs.length = m := by rw [hLv.len]; exact hm
 have HCM := Lib.hid hcm; clear hm hcm
 have HAL := Lib.hid hal
 have k100 := (state_100 hal hB).1
 have k101 := (state_100 hal hB).2.1
 have k102 := (state_100 hal hB).2.2
 have kst := hB.lt
 clear hal
 have HI : Hid (i < m) := Lib.hid (by have := HM.out; omega); have HJ : Hid (j < m) := Lib.hid (by have := HM.out; omega)
 clear hi hj
 have hi := HI.out; have hj := HJ.out
 have HSM : Hid (∀ x, SE m x = hasL RK x) := Lib.hid fun x => by have := HSE.out x; rwa [HM.out] at this
 clear HSE
 obtain ⟨bL, oL, ca, la, hV, hcj, hlj, hq0a, hq1a, hIa⟩ := hLv.get (i := i) (by rw [HM.out]; exact hi)
 subst hV
 obtain ⟨na, ua⟩ := ca
 simp only at hq0a hq1a hIa
 obtain ⟨eaa, eca, rfl, _, _⟩ := hIa.val
 rw [Nat.mul_comm 2 i] at hq0a hq1a
 rw [← Nat.add_assoc] at hq1a
 have HCa := Lib.hid hcj; have HLa := Lib.hid hlj; clear hcj hlj
 obtain ⟨bL', oL', cb, lb, hV, hcj, hlj, hq0b, hq1b, hIb⟩ := hLv.get (i := j) (by rw [HM.out]; exact hj)
 cases hV
 obtain ⟨nb, ub⟩ := cb
 simp only at hq0b hq1b hIb
 obtain ⟨eab, ecb, rfl, _, _⟩ := hIb.val
 rw [Nat.mul_comm 2 j] at hq0b hq1b
 rw [← Nat.add_assoc] at hq1b
 have HCb := Lib.hid hcj; have HLb := Lib.hid hlj; clear hcj hlj
 have hra := HRK.out la (List.mem_of_getElem? HLa.out)
 have hrb := HRK.out lb (List.mem_of_getElem? HLb.out)
 have hRL := HRL.out
 rw [labAt_get HLa.out, labAt_get HLb.out] at hRL
 rw [hRL]; clear hRL HRL
 have hH : Held w w [] := Held.new (Ext.refl w) 0
 go_enter Try.func141, Try.ntmps141
 obtain ⟨JN, hJN⟩ : ∃ q, joinL la lb = q := ⟨_, rfl⟩
 have hjl := joinL_len la lb
 rw [hJN] at hjl ⊢
 have HJN := Lib.hid hJN; clear hJN
 replace hH := hH.mores 1
 go_upto_region 2 with fail
 replace hH : Held w w [emp] := hH
 refine wp_region_steps ?Fa (fun b t wx => Held w wx [(bif b 16 then aI (t 16) JN else emp)] ∧ (b 0 = true → t 0 = .pointer (some ⟨s, 0, none⟩)) ∧ (b 1 = true → t 1 = .pointer (some ⟨s, 0, none⟩)) ∧ (b 2 = true → t 2 = .pointer (some ⟨s, 101, none⟩)) ∧ (b 3 = true → t 3 = .slice (some ⟨bL, oL, none⟩) m cV) ∧ (b 4 = true → t 4 = .int .i64 (i : Int)) ∧ (b 5 = true → t 5 = .pointer (some ⟨bL, oL + i * 2, none⟩)) ∧ (b 6 = true → t 6 = .pointer (some ⟨bL, oL + i * 2 + 1, none⟩)) ∧ (b 7 = true → t 7 = .slice eaa la.length eca) ∧ (b 8 = true → t 8 = .pointer (some ⟨s, 0, none⟩)) ∧ (b 9 = true → t 9 = .pointer (some ⟨s, 0, none⟩)) ∧ (b 10 = true → t 10 = .pointer (some ⟨s, 101, none⟩)) ∧ (b 11 = true → t 11 = .slice (some ⟨bL, oL, none⟩) m cV) ∧ (b 12 = true → t 12 = .int .i64 (j : Int)) ∧ (b 13 = true → t 13 = .pointer (some ⟨bL, oL + j * 2, none⟩)) ∧ (b 14 = true → t 14 = .pointer (some ⟨bL, oL + j * 2 + 1, none⟩)) ∧ (b 15 = true → t 15 = .slice eab lb.length ecb) ∧ (b 16 = true → ∃ x c, t 16 = .slice x JN.length c) ∧ (b 17 = true → t 17 = .int .i64 (JN.length : Int)) ∧ (b 18 = true → t 18 = .int .i64 0)) ?hFa (by kernel_rfl) (by kernel_rfl) ?hJa ?hSa ?hEa
 (case hFa => intro t; simp only [putAll, Act.put, List.setIfInBounds_toArray, List.set_cons_zero, List.set_cons_succ, Nat.reduceAdd, Nat.zero_add]; exact rfl)
 case hJa => exact ⟨hH.grow ((Ext.refl _).drew), fun h => absurd h Bool.false_ne_true, fun h => absurd h Bool.false_ne_true, fun h => absurd h Bool.false_ne_true, fun h => absurd h Bool.false_ne_true, fun h => absurd h Bool.false_ne_true, fun h => absurd h Bool.false_ne_true, fun h => absurd h Bool.false_ne_true, fun h => absurd h Bool.false_ne_true, fun h => absurd h Bool.false_ne_true, fun h => absurd h Bool.false_ne_true, fun h => absurd h Bool.false_ne_true, fun h => absurd h Bool.false_ne_true, fun h => absurd h Bool.false_ne_true, fun h => absurd h Bool.false_ne_true, fun h => absurd h Bool.false_ne_true, fun h => absurd h Bool.false_ne_true, fun h => absurd h Bool.false_ne_true, fun h => absurd h Bool.false_ne_true, fun h => absurd h Bool.false_ne_true⟩
 case hSa => as_aux_lemma =>
   refine AllSteps.cons (j := 1) rfl (fun b t wx hJ hb hd hcl Kc hK => ?_) ?_
   · obtain ⟨hH, v0, v1, v2, v3, v4, v5, v6, v7, v8, v9, v10, v11, v12, v13, v14, v15, v16, v17, v18⟩ := hJ
     have c_k101 := hH.ext.cell k101; have c_hq1a := hH.ext.cell hq1a; have c_hq1b := hH.ext.cell hq1b
     go_simp
     refine hK.out _ ?_ _ ?_ ?_; rotate_left 2
     · rfl
     exact ⟨hH, fun _ => rfl, v1, v2, v3, v4, v5, v6, v7, v8, v9, v10, v11, v12, v13, v14, v15, v16, v17, v18⟩
   refine AllSteps.cons (j := 2) rfl (fun b t wx hJ hb hd hcl Kc hK => ?_) ?_
   · obtain ⟨hH, v0, v1, v2, v3, v4, v5, v6, v7, v8, v9, v10, v11, v12, v13, v14, v15, v16, v17, v18⟩ := hJ
     have d0 := hd.out 0 (by kernel_rfl); have r0 := v0 d0; have c_k101 := hH.ext.cell k101; have c_hq1a := hH.ext.cell hq1a; have c_hq1b := hH.ext.cell hq1b
     go_simp
     refine hK.out _ ?_ _ ?_ ?_; rotate_left 2
     · (try simp only [r0]); rfl
     exact ⟨hH, v0, fun _ => rfl, v2, v3, v4, v5, v6, v7, v8, v9, v10, v11, v12, v13, v14, v15, v16, v17, v18⟩
   refine AllSteps.cons (j := 3) rfl (fun b t wx hJ hb hd hcl Kc hK => ?_) ?_
   · obtain ⟨hH, v0, v1, v2, v3, v4, v5, v6, v7, v8, v9, v10, v11, v12, v13, v14, v15, v16, v17, v18⟩ := hJ
     have d1 := hd.out 1 (by kernel_rfl); have r1 := v1 d1; have c_k101 := hH.ext.cell k101; have c_hq1a := hH.ext.cell hq1a; have c_hq1b := hH.ext.cell hq1b
     go_simp
     refine hK.out _ ?_ _ ?_ ?_; rotate_left 2
     · (try simp only [r1]); rfl
     exact ⟨hH, v0, v1, fun _ => rfl, v3, v4, v5, v6, v7, v8, v9, v10, v11, v12, v13, v14, v15, v16, v17, v18⟩
   refine AllSteps.cons (j := 4) rfl (fun b t wx hJ hb hd hcl Kc hK => ?_) ?_
   · obtain ⟨hH, v0, v1, v2, v3, v4, v5, v6, v7, v8, v9, v10, v11, v12, v13, v14, v15, v16, v17, v18⟩ := hJ
     have d2 := hd.out 2 (by kernel_rfl); have r2 := v2 d2; have c_k101 := hH.ext.cell k101; have c_hq1a := hH.ext.cell hq1a; have c_hq1b := hH.ext.cell hq1b
     go_simp
     refine hK.out _ ?_ _ ?_ ?_; rotate_left 2
     · (try simp only [r2]); rfl
     exact ⟨hH, v0, v1, v2, fun _ => rfl, v4, v5, v6, v7, v8, v9, v10, v11, v12, v13, v14, v15, v16, v17, v18⟩
   refine AllSteps.cons (j := 5) rfl (fun b t wx hJ hb hd hcl Kc hK => ?_) ?_
   · obtain ⟨hH, v0, v1, v2, v3, v4, v5, v6, v7, v8, v9, v10, v11, v12, v13, v14, v15, v16, v17, v18⟩ := hJ
     have c_k101 := hH.ext.cell k101; have c_hq1a := hH.ext.cell hq1a; have c_hq1b := hH.ext.cell hq1b
     go_simp
     refine hK.out _ ?_ _ ?_ ?_; rotate_left 2
     · rfl
     exact ⟨hH, v0, v1, v2, v3, fun _ => rfl, v5, v6, v7, v8, v9, v10, v11, v12, v13, v14, v15, v16, v17, v18⟩
   refine AllSteps.cons (j := 6) rfl (fun b t wx hJ hb hd hcl Kc hK => ?_) ?_
   · obtain ⟨hH, v0, v1, v2, v3, v4, v5, v6, v7, v8, v9, v10, v11, v12, v13, v14, v15, v16, v17, v18⟩ := hJ
     have d3 := hd.out 3 (by kernel_rfl); have d4 := hd.out 4 (by kernel_rfl); have r3 := v3 d3; have r4 := v4 d4; have c_k101 := hH.ext.cell k101; have c_hq1a := hH.ext.cell hq1a; have c_hq1b := hH.ext.cell hq1b
     go_simp
     refine hK.out _ ?_ _ ?_ ?_; rotate_left 2
     · (try simp only [r3, r4]); rfl
     exact ⟨hH, v0, v1, v2, v3, v4, fun _ => rfl, v6, v7, v8, v9, v10, v11, v12, v13, v14, v15, v16, v17, v18⟩
   refine AllSteps.cons (j := 7) rfl (fun b t wx hJ hb hd hcl Kc hK => ?_) ?_
   · obtain ⟨hH, v0, v1, v2, v3, v4, v5, v6, v7, v8, v9, v10, v11, v12, v13, v14, v15, v16, v17, v18⟩ := hJ
     have d5 := hd.out 5 (by kernel_rfl); have r5 := v5 d5; have c_k101 := hH.ext.cell k101; have c_hq1a := hH.ext.cell hq1a; have c_hq1b := hH.ext.cell hq1b
     go_simp
     refine hK.out _ ?_ _ ?_ ?_; rotate_left 2
     · (try simp only [r5]); rfl
     exact ⟨hH, v0, v1, v2, v3, v4, v5, fun _ => rfl, v7, v8, v9, v10, v11, v12, v13, v14, v15, v16, v17, v18⟩
   refine AllSteps.cons (j := 8) rfl (fun b t wx hJ hb hd hcl Kc hK => ?_) ?_
   · obtain ⟨hH, v0, v1, v2, v3, v4, v5, v6, v7, v8, v9, v10, v11, v12, v13, v14, v15, v16, v17, v18⟩ := hJ
     have d6 := hd.out 6 (by kernel_rfl); have r6 := v6 d6; have c_k101 := hH.ext.cell k101; have c_hq1a := hH.ext.cell hq1a; have c_hq1b := hH.ext.cell hq1b
     go_simp
     refine hK.out _ ?_ _ ?_ ?_; rotate_left 2
     · (try simp only [r6]); rfl
     exact ⟨hH, v0, v1, v2, v3, v4, v5, v6, fun _ => rfl, v8, v9, v10, v11, v12, v13, v14, v15, v16, v17, v18⟩
   refine AllSteps.cons (j := 9) rfl (fun b t wx hJ hb hd hcl Kc hK => ?_) ?_
   · obtain ⟨hH, v0, v1, v2, v3, v4, v5, v6, v7, v8, v9, v10, v11, v12, v13, v14, v15, v16, v17, v18⟩ := hJ
     have c_k101 := hH.ext.cell k101; have c_hq1a := hH.ext.cell hq1a; have c_hq1b := hH.ext.cell hq1b
     go_simp
     refine hK.out _ ?_ _ ?_ ?_; rotate_left 2
     · rfl
     exact ⟨hH, v0, v1, v2, v3, v4, v5, v6, v7, fun _ => rfl, v9, v10, v11, v12, v13, v14, v15, v16, v17, v18⟩
   refine AllSteps.cons (j := 10) rfl (fun b t wx hJ hb hd hcl Kc hK => ?_) ?_
   · obtain ⟨hH, v0, v1, v2, v3, v4, v5, v6, v7, v8, v9, v10, v11, v12, v13, v14, v15, v16, v17, v18⟩ := hJ
     have d8 := hd.out 8 (by kernel_rfl); have r8 := v8 d8; have c_k101 := hH.ext.cell k101; have c_hq1a := hH.ext.cell hq1a; have c_hq1b := hH.ext.cell hq1b
     go_simp
     refine hK.out _ ?_ _ ?_ ?_; rotate_left 2
     · (try simp only [r8]); rfl
     exact ⟨hH, v0, v1, v2, v3, v4, v5, v6, v7, v8, fun _ => rfl, v10, v11, v12, v13, v14, v15, v16, v17, v18⟩
   refine AllSteps.cons (j := 11) rfl (fun b t wx hJ hb hd hcl Kc hK => ?_) ?_
   · obtain ⟨hH, v0, v1, v2, v3, v4, v5, v6, v7, v8, v9, v10, v11, v12, v13, v14, v15, v16, v17, v18⟩ := hJ
     have d9 := hd.out 9 (by kernel_rfl); have r9 := v9 d9; have c_k101 := hH.ext.cell k101; have c_hq1a := hH.ext.cell hq1a; have c_hq1b := hH.ext.cell hq1b
     go_simp
     refine hK.out _ ?_ _ ?_ ?_; rotate_left 2
     · (try simp only [r9]); rfl
     exact ⟨hH, v0, v1, v2, v3, v4, v5, v6, v7, v8, v9, fun _ => rfl, v11, v12, v13, v14, v15, v16, v17, v18⟩
   refine AllSteps.cons (j := 12) rfl (fun b t wx hJ hb hd hcl Kc hK => ?_) ?_
   · obtain ⟨hH, v0, v1, v2, v3, v4, v5, v6, v7, v8, v9, v10, v11, v12, v13, v14, v15, v16, v17, v18⟩ := hJ
     have d10 := hd.out 10 (by kernel_rfl); have r10 := v10 d10; have c_k101 := hH.ext.cell k101; have c_hq1a := hH.ext.cell hq1a; have c_hq1b := hH.ext.cell hq1b
     go_simp
     refine hK.out _ ?_ _ ?_ ?_; rotate_left 2
     · (try simp only [r10]); rfl
     exact ⟨hH, v0, v1, v2, v3, v4, v5, v6, v7, v8, v9, v10, fun _ => rfl, v12, v13, v14, v15, v16, v17, v18⟩
   refine AllSteps.cons (j := 13) rfl (fun b t wx hJ hb hd hcl Kc hK => ?_) ?_
   · obtain ⟨hH, v0, v1, v2, v3, v4, v5, v6, v7, v8, v9, v10, v11, v12, v13, v14, v15, v16, v17, v18⟩ := hJ
     have c_k101 := hH.ext.cell k101; have c_hq1a := hH.ext.cell hq1a; have c_hq1b := hH.ext.cell hq1b
     go_simp
     refine hK.out _ ?_ _ ?_ ?_; rotate_left 2
     · rfl
     exact ⟨hH, v0, v1, v2, v3, v4, v5, v6, v7, v8, v9, v10, v11, fun _ => rfl, v13, v14, v15, v16, v17, v18⟩
   refine AllSteps.cons (j := 14) rfl (fun b t wx hJ hb hd hcl Kc hK => ?_) ?_
   · obtain ⟨hH, v0, v1, v2, v3, v4, v5, v6, v7, v8, v9, v10, v11, v12, v13, v14, v15, v16, v17, v18⟩ := hJ
     have d11 := hd.out 11 (by kernel_rfl); have d12 := hd.out 12 (by kernel_rfl); have r11 := v11 d11; have r12 := v12 d12; have c_k101 := hH.ext.cell k101; have c_hq1a := hH.ext.cell hq1a; have c_hq1b := hH.ext.cell hq1b
     go_simp
     refine hK.out _ ?_ _ ?_ ?_; rotate_left 2
     · (try simp only [r11, r12]); rfl
     exact ⟨hH, v0, v1, v2, v3, v4, v5, v6, v7, v8, v9, v10, v11, v12, fun _ => rfl, v14, v15, v16, v17, v18⟩
   refine AllSteps.cons (j := 15) rfl (fun b t wx hJ hb hd hcl Kc hK => ?_) ?_
   · obtain ⟨hH, v0, v1, v2, v3, v4, v5, v6, v7, v8, v9, v10, v11, v12, v13, v14, v15, v16, v17, v18⟩ := hJ
     have d13 := hd.out 13 (by kernel_rfl); have r13 := v13 d13; have c_k101 := hH.ext.cell k101; have c_hq1a := hH.ext.cell hq1a; have c_hq1b := hH.ext.cell hq1b
     go_simp
     refine hK.out _ ?_ _ ?_ ?_; rotate_left 2
     · (try simp only [r13]); rfl
     exact ⟨hH, v0, v1, v2, v3, v4, v5, v6, v7, v8, v9, v10, v11, v12, v13, fun _ => rfl, v15, v16, v17, v18⟩
   refine AllSteps.cons (j := 16) rfl (fun b t wx hJ hb hd hcl Kc hK => ?_) ?_
   · obtain ⟨hH, v0, v1, v2, v3, v4, v5, v6, v7, v8, v9, v10, v11, v12, v13, v14, v15, v16, v17, v18⟩ := hJ
     have d14 := hd.out 14 (by kernel_rfl); have r14 := v14 d14; have c_k101 := hH.ext.cell k101; have c_hq1a := hH.ext.cell hq1a; have c_hq1b := hH.ext.cell hq1b
     go_simp
     refine hK.out _ ?_ _ ?_ ?_; rotate_left 2
     · (try simp only [r14]); rfl
     exact ⟨hH, v0, v1, v2, v3, v4, v5, v6, v7, v8, v9, v10, v11, v12, v13, v14, fun _ => rfl, v16, v17, v18⟩
   refine AllSteps.cons (j := 17) rfl (fun b t wx hJ hb hd hcl Kc hK => ?_) ?_
   · obtain ⟨hH, v0, v1, v2, v3, v4, v5, v6, v7, v8, v9, v10, v11, v12, v13, v14, v15, v16, v17, v18⟩ := hJ
     have d7 := hd.out 7 (by kernel_rfl); have d15 := hd.out 15 (by kernel_rfl); have r7 := v7 d7; have r15 := v15 d15
     have hN := hH; (try simp only [hb, d7, d15, cond_true, cond_false] at hN)
     go_simp
     go_at_call 138
     refine (joinLabels_any _ _ la lb _ (hIa.ext hH.ext) (hIb.ext hH.ext) (by omega) (by omega)).mono ?_; rintro e16 w16 ⟨v16, rfl, o16, h16⟩
     rw [HJN.out] at o16
     obtain ⟨x16, c16, rfl⟩ := o16.shape1 JN.length rfl
     (try go_simp)
     refine hK.out _ ?_ _ ?_ ?_; rotate_left 2
     · (try simp only [r7, r15]); rfl
     exact ⟨by have hX := hN.addI 0 h16 o16 (Nat.le_refl _); simpa only [List.set_cons_zero, List.set_cons_succ, updB, updV, blkOf_mk, tup0_mk, partsOf3, Nat.reduceBEq, cond_true, cond_false, hb, d7, d15, r7, r15] using hX, v0, v1, v2, v3, v4, v5, v6, v7, v8, v9, v10, v11, v12, v13, v14, v15, fun _ => ⟨_, _, rfl⟩, v17, v18⟩
   refine AllSteps.cons (j := 18) rfl (fun b t wx hJ hb hd hcl Kc hK => ?_) ?_
   · obtain ⟨hH, v0, v1, v2, v3, v4, v5, v6, v7, v8, v9, v10, v11, v12, v13, v14, v15, v16, v17, v18⟩ := hJ
     have d16 := hd.out 16 (by kernel_rfl); have r16 := v16 d16
     obtain ⟨x_16, c_16, r16⟩ := r16
     have c_k101 := hH.ext.cell k101; have c_hq1a := hH.ext.cell hq1a; have c_hq1b := hH.ext.cell hq1b
     go_simp
     refine hK.out _ ?_ _ ?_ ?_; rotate_left 2
     · (try simp only [r16]); rfl
     exact ⟨hH, v0, v1, v2, v3, v4, v5, v6, v7, v8, v9, v10, v11, v12, v13, v14, v15, v16, fun _ => rfl, v18⟩
   refine AllSteps.cons (j := 19) rfl (fun b t wx hJ hb hd hcl Kc hK => ?_) ?_
   · obtain ⟨hH, v0, v1, v2, v3, v4, v5, v6, v7, v8, v9, v10, v11, v12, v13, v14, v15, v16, v17, v18⟩ := hJ
     have c_k101 := hH.ext.cell k101; have c_hq1a := hH.ext.cell hq1a; have c_hq1b := hH.ext.cell hq1b
     go_simp
     refine hK.out _ ?_ _ ?_ ?_; rotate_left 2
     · rfl
     exact ⟨hH, v0, v1, v2, v3, v4, v5, v6, v7, v8, v9, v10, v11, v12, v13, v14, v15, v16, v17, fun _ => rfl⟩
   exact AllSteps.nil
 case hEa =>
  intro b t wa hJ hall
  obtain ⟨hHa, v0, v1, v2, v3, v4, v5, v6, v7, v8, v9, v10, v11, v12, v13, v14, v15, v16, v17, v18⟩ := hJ
  have a0 := hall 0 (by decide); have a1 := hall 1 (by decide); have a2 := hall 2 (by decide); have a3 := hall 3 (by decide); have a4 := hall 4 (by decide); have a5 := hall 5 (by decide); have a6 := hall 6 (by decide); have a7 := hall 7 (by decide); have a8 := hall 8 (by decide); have a9 := hall 9 (by decide); have a10 := hall 10 (by decide); have a11 := hall 11 (by decide); have a12 := hall 12 (by decide); have a13 := hall 13 (by decide); have a14 := hall 14 (by decide); have a15 := hall 15 (by decide); have a16 := hall 16 (by decide); have a17 := hall 17 (by decide); have a18 := hall 18 (by decide)
  (try simp only [a0, a1, a2, a3, a4, a5, a6, a7, a8, a9, a10, a11, a12, a13, a14, a15, a16, a17, a18, cond_true] at hHa)
  replace v0 := v0 a0; replace v1 := v1 a1; replace v2 := v2 a2; replace v3 := v3 a3; replace v4 := v4 a4; replace v5 := v5 a5; replace v6 := v6 a6; replace v7 := v7 a7; replace v8 := v8 a8; replace v9 := v9 a9; replace v10 := v10 a10; replace v11 := v11 a11; replace v12 := v12 a12; replace v13 := v13 a13; replace v14 := v14 a14; replace v15 := v15 a15; replace v16 := v16 a16; replace v17 := v17 a17; replace v18 := v18 a18
  clear hall a0 a1 a2 a3 a4 a5 a6 a7 a8 a9 a10 a11 a12 a13 a14 a15 a16 a17 a18
  generalize t 18 = x18 at hHa v18 ⊢; generalize t 17 = x17 at hHa v17 ⊢; generalize t 16 = x16 at hHa v16 ⊢; generalize t 15 = x15 at hHa v15 ⊢; generalize t 14 = x14 at hHa v14 ⊢; generalize t 13 = x13 at hHa v13 ⊢; generalize t 12 = x12 at hHa v12 ⊢; generalize t 11 = x11 at hHa v11 ⊢; generalize t 10 = x10 at hHa v10 ⊢; generalize t 9 = x9 at hHa v9 ⊢; generalize t 8 = x8 at hHa v8 ⊢; generalize t 7 = x7 at hHa v7 ⊢; generalize t 6 = x6 at hHa v6 ⊢; generalize t 5 = x5 at hHa v5 ⊢; generalize t 4 = x4 at hHa v4 ⊢; generalize t 3 = x3 at hHa v3 ⊢; generalize t 2 = x2 at hHa v2 ⊢; generalize t 1 = x1 at hHa v1 ⊢; generalize t 0 = x0 at hHa v0 ⊢; subst v0; subst v1; subst v2; subst v3; subst v4; subst v5; subst v6; subst v7; subst v8; subst v9; subst v10; subst v11; subst v12; subst v13; subst v14; subst v15
  obtain ⟨xa16, ca16, rfl⟩ := v16
  subst v17; subst v18
  clear b
  replace hH := hHa; clear hHa
  replace hH : Held w wa [aI (.slice xa16 JN.length ca16) JN] := hH
  obtain ⟨w1, rfl⟩ : ∃ q, q = wa := ⟨wa, rfl⟩
  have h1 := hH.ext
  have hJ := hH.ints (k := 0) rfl
  have E1 := Lib.hid h1
  replace hB := hB.ext h1; replace hov := hov.ext h1
  replace hLv := hLv.ext h1
  clear k100 k101 k102 hq0a hq1a hq0b hq1b hIa hIb h1 kst hH
  have k100 := (state_100 HAL.out hB).1
  have k101 := (state_100 HAL.out hB).2.1
  have k102 := (state_100 HAL.out hB).2.2
  have kst := hB.lt
  have hH : Held w1 w1 [] := Held.new (Ext.refl w1) 0
  replace hH := hH.nilI
  replace hH : Held w1 w1 [aI (.slice none 0 0) []] := hH
  have c_k100 := hH.ext.cell k100; have c_k101 := hH.ext.cell k101; have c_k102 := hH.ext.cell k102
  have c_kst := Nat.lt_of_lt_of_le kst hH.ext.size
  go_wp2_with fail
  clear c_k100 c_k101 c_k102 c_kst
  go_loopw [7, 31] (fun vl i wr => ∃ c : Nat, c ≤ JN.length ∧ i = .int .i64 (c : Int) ∧ Held w1 wr [aI vl (keepL (JN.take c) RK)]) (fun vl i wr => JN.length - (RowKit.intOf i).toNat)
  case atStart => exact ⟨0, Nat.zero_le _, rfl, hH⟩
  case round =>
   clear hH
   rename_i vl
   obtain ⟨c, hc, rfl, hH⟩ := hrel
   obtain ⟨KL, hKL⟩ : ∃ q, keepL (JN.take c) RK = q := ⟨_, rfl⟩
   have hkl := keepL_len (JN.take c) RK; rw [List.length_take] at hkl
   rw [hKL] at hH hkl
   have HKL := Lib.hid hKL; clear hKL
   obtain ⟨al, cl, rfl⟩ := (hH.own (k := 0) rfl).shape1 KL.length rfl
   obtain ⟨wq, rfl⟩ : ∃ q, q = wr := ⟨wr, rfl⟩
   by_cases hlt : c < JN.length
   ·
    obtain ⟨bJ, oJ, x, haj, hce, hx, _⟩ := hJ.get hlt
    subst haj
    have HX := Lib.hid hx; clear hx
    have c_k100 := hH.ext.cell k100; have c_k101 := hH.ext.cell k101; have c_k102 := hH.ext.cell k102; have c_hce := hH.ext.cell hce
    have c_kst := Nat.lt_of_lt_of_le kst hH.ext.size
    go_wp2_with fail
    clear c_k100 c_k101 c_k102 c_hce c_kst
    refine (hasInt_any _ op x _ (hov.ext hH.ext)).mono ?_; rintro e2 w2 ⟨rfl, rfl⟩
    obtain ⟨K0, hK0⟩ : ∃ b, hasL op x = b := ⟨_, rfl⟩
    rw [hK0]
    have HK0 : Hid (SE 0 x = K0) := Lib.hid (by rw [HS0.out, hK0])
    clear hK0
    have c_k100 := hH.ext.cell k100; have c_k101 := hH.ext.cell k101; have c_k102 := hH.ext.cell k102; have c_hce := hH.ext.cell hce
    have c_kst := Nat.lt_of_lt_of_le kst hH.ext.size
    go_wp2_with fail
    clear c_k100 c_k101 c_k102 c_hce c_kst
    go_loopw [10, 46] (fun vk i wr => ∃ (q : Nat) (K : Bool), q ≤ m ∧ i = .int .i64 (q : Int) ∧ vk = .bool K ∧ Hid (SE q x = K) ∧ Held w1 wr [aI (.slice al KL.length cl) KL]) (fun vk i wr => m - (RowKit.intOf i).toNat)
    case atStart => exact ⟨0, _, Nat.zero_le _, rfl, rfl, HK0, hH⟩
    case round =>
     clear hH HK0
     obtain ⟨q, K, hq, rfl, rfl, HK, hH⟩ := hrel
     by_cases hlt2 : q < m
     ·
      obtain ⟨bL', oL', c, l, hV, hcj, hlj, hq0, hq1, hI⟩ := hLv.get (i := q) (by rw [HM.out]; exact hlt2)
      cases hV
      obtain ⟨n, u⟩ := c
      simp only at hq0 hq1 hI
      obtain ⟨ea, ec, rfl, _, _⟩ := hI.val
      rw [Nat.mul_comm 2 q] at hq0 hq1
      rw [← Nat.add_assoc] at hq1
      have HC := Lib.hid hcj; have HL := Lib.hid hlj; clear hcj hlj
      have c_k100 := hH.ext.cell k100; have c_k101 := hH.ext.cell k101; have c_k102 := hH.ext.cell k102; have c_hce := hH.ext.cell hce; have c_hq0 := hH.ext.cell hq0; have c_hq1 := hH.ext.cell hq1
      have c_kst := Nat.lt_of_lt_of_le kst hH.ext.size
      go_upto_region 9 with fail
      clear c_k100 c_k101 c_k102 c_hce c_hq0 c_hq1 c_kst
      have hB : Held w1 (wr.alloc (.cells #[.int .i64 n, .slice ea l.length ec] 140)) [aI (.slice al KL.length cl) KL, aB (wr.heap.size) 140 [.int .i64 n, .slice ea l.length ec]] := by
       have h := (hH.mores 1).addB 1 #[.int .i64 n, .slice ea l.length ec] 140
       exact h
      have hsz : (wr.alloc (.cells #[.int .i64 n, .slice ea l.length ec] 140)).heap.size = wr.heap.size + 1 := by simp
      generalize wr.alloc (.cells #[.int .i64 n, .slice ea l.length ec] 140) = wn1 at hB hsz ⊢
      replace hH := hB; have HSZwn1 := Lib.hid hsz; clear hB hsz
      by_cases hqi : (q : Int) = (i : Int)
      ·
       have hqi2 : q = i ∨ q = j := .inl (by omega)
       have HE1 := Lib.hid (HSN.out q x hqi2); rw [HK.out] at HE1
       clear hqi2
       have q1_0 := hH.cl 1 0 rfl rfl; have q1_1 := hH.cl 1 1 rfl rfl; have l1_ := hH.bl 1 rfl; have c_k100 := hH.ext.cell k100; have c_k101 := hH.ext.cell k101; have c_k102 := hH.ext.cell k102; have c_hce := hH.ext.cell hce; have c_hq0 := hH.ext.cell hq0; have c_hq1 := hH.ext.cell hq1
       have c_kst := Nat.lt_of_lt_of_le kst hH.ext.size
       go_wp2_with fail
       clear q1_0 q1_1 l1_ c_k100 c_k101 c_k102 c_hce c_hq0 c_hq1 c_kst
       go_roundw
       case rel => exact ⟨q + 1, _, by omega, by go_num, rfl, Lib.hid HE1.out, hH.sub (.cons_cons _ (.cons _ .slnil))⟩
       case measure => simp [RowKit.intOf]; omega
      ·
       by_cases hqj : (q : Int) = (j : Int)
       ·
        have hqi2 : q = i ∨ q = j := .inr (by omega)
        have HE1 := Lib.hid (HSN.out q x hqi2); rw [HK.out] at HE1
        clear hqi2
        have q1_0 := hH.cl 1 0 rfl rfl; have q1_1 := hH.cl 1 1 rfl rfl; have l1_ := hH.bl 1 rfl; have c_k100 := hH.ext.cell k100; have c_k101 := hH.ext.cell k101; have c_k102 := hH.ext.cell k102; have c_hce := hH.ext.cell hce; have c_hq0 := hH.ext.cell hq0; have c_hq1 := hH.ext.cell hq1
        have c_kst := Nat.lt_of_lt_of_le kst hH.ext.size
        go_wp2_with fail
        clear q1_0 q1_1 l1_ c_k100 c_k101 c_k102 c_hce c_hq0 c_hq1 c_kst
        go_roundw
        case rel => exact ⟨q + 1, _, by omega, by go_num, rfl, Lib.hid HE1.out, hH.sub (.cons_cons _ (.cons _ .slnil))⟩
        case measure => simp [RowKit.intOf]; omega
       ·
        have HE1 := Lib.hid (HSY.out q x (by omega) l HL.out); rw [HK.out] at HE1
        have hbi : ((q : Int) != (i : Int)) = true := by simpa using hqi
        have hbj : ((q : Int) != (j : Int)) = true := by simpa using hqj
        have q1_0 := hH.cl 1 0 rfl rfl; have q1_1 := hH.cl 1 1 rfl rfl; have l1_ := hH.bl 1 rfl; have c_k100 := hH.ext.cell k100; have c_k101 := hH.ext.cell k101; have c_k102 := hH.ext.cell k102; have c_hce := hH.ext.cell hce; have c_hq0 := hH.ext.cell hq0; have c_hq1 := hH.ext.cell hq1
        have c_kst := Nat.lt_of_lt_of_le kst hH.ext.size
        go_wp2_with fail
        clear q1_0 q1_1 l1_ c_k100 c_k101 c_k102 c_hce c_hq0 c_hq1 c_kst
        refine (hasInt_any _ l x _ (hI.ext hH.ext)).mono ?_; rintro e3 w3 ⟨rfl, rfl⟩
        by_cases hx : hasL l x = true
        ·
         rw [hx]
         have HE2 := HE1.out; rw [hx, Bool.or_true] at HE2
         have HE3 := Lib.hid HE2; clear HE2 hx
         have q1_0 := hH.cl 1 0 rfl rfl; have q1_1 := hH.cl 1 1 rfl rfl; have l1_ := hH.bl 1 rfl; have c_k100 := hH.ext.cell k100; have c_k101 := hH.ext.cell k101; have c_k102 := hH.ext.cell k102; have c_hce := hH.ext.cell hce; have c_hq0 := hH.ext.cell hq0; have c_hq1 := hH.ext.cell hq1
         have c_kst := Nat.lt_of_lt_of_le kst hH.ext.size
         go_wp2_with fail
         clear q1_0 q1_1 l1_ c_k100 c_k101 c_k102 c_hce c_hq0 c_hq1 c_kst
         go_roundw
         case rel => exact ⟨q + 1, _, by omega, by go_num, rfl, Lib.hid HE3.out, hH.sub (.cons_cons _ (.cons _ .slnil))⟩
         case measure => simp [RowKit.intOf]; omega
        ·
         have hx2 := eq_false_of_ne_true hx; rw [hx2]
         have HE2 := HE1.out; rw [hx2, Bool.or_false] at HE2
         clear hx2
         have HE3 := Lib.hid HE2; clear HE2 hx
         have q1_0 := hH.cl 1 0 rfl rfl; have q1_1 := hH.cl 1 1 rfl rfl; have l1_ := hH.bl 1 rfl; have c_k100 := hH.ext.cell k100; have c_k101 := hH.ext.cell k101; have c_k102 := hH.ext.cell k102; have c_hce := hH.ext.cell hce; have c_hq0 := hH.ext.cell hq0; have c_hq1 := hH.ext.cell hq1
         have c_kst := Nat.lt_of_lt_of_le kst hH.ext.size
         go_wp2_with fail
         clear q1_0 q1_1 l1_ c_k100 c_k101 c_k102 c_hce c_hq0 c_hq1 c_kst
         go_roundw
         case rel => exact ⟨q + 1, _, by omega, by go_num, rfl, Lib.hid HE3.out, hH.sub (.cons_cons _ (.cons _ .slnil))⟩
         case measure => simp [RowKit.intOf]; omega
     ·
      have hqe : q = m := by omega
      subst hqe
      have hKE := HSM.out x; rw [HK.out] at hKE
      have HKE := Lib.hid hKE; clear hKE
      obtain ⟨wb, rfl⟩ : ∃ z, z = wr := ⟨wr, rfl⟩
      cases K
      ·
       have HS := Lib.hid (show keepL (JN.take (c + 1)) RK = KL by rw [take_snoc' HX.out, keepL_snoc_no HKE.out.symm, HKL.out])
       have c_k100 := hH.ext.cell k100; have c_k101 := hH.ext.cell k101; have c_k102 := hH.ext.cell k102; have c_hce := hH.ext.cell hce
       have c_kst := Nat.lt_of_lt_of_le kst hH.ext.size
       go_wp2_with fail
       clear c_k100 c_k101 c_k102 c_hce c_kst
       have hHq := hH
       go_roundw
       case rel => exact ⟨c + 1, by omega, by go_num, by rw [HS.out]; exact hHq.sub (.cons_cons _ .slnil)⟩
       case measure => simp [RowKit.intOf]; omega
      ·
       have HS := Lib.hid (show keepL (JN.take (c + 1)) RK = KL ++ [x] by rw [take_snoc' HX.out, keepL_snoc_yes HKE.out.symm, HKL.out])
       have c_k100 := hH.ext.cell k100; have c_k101 := hH.ext.cell k101; have c_k102 := hH.ext.cell k102; have c_hce := hH.ext.cell hce
       have c_kst := Nat.lt_of_lt_of_le kst hH.ext.size
       go_wp2_with (at_builtin; refine wpList_app _ rfl _ _ 27 rfl _ _ rfl rfl _ (run_push _ _ w1.heap.size _ KL x (hH.own (k := 0) rfl) (by omega) hH.size) ?_; rintro v6 w6 ⟨o6, g6, n6⟩)
       have hHq := hH.pushed (k := 0) rfl o6 g6 n6
       go_roundw
       case rel => exact ⟨c + 1, by omega, by go_num, by rw [HS.out]; exact hHq.sub (.cons_cons _ .slnil)⟩
       case measure => simp [RowKit.intOf]; omega
   ·
    have hce : c = JN.length := by omega
    subst hce
    have HKF : Hid (keepL JN RK = KL) := Lib.hid (by rw [← HKL.out, List.take_length])
    have HO := Lib.hid (hH.own (k := 0) rfl); have HE := Lib.hid hH.ext; clear hH
    go_wp2
    go_ret
    exact ⟨_, rfl, by rw [HKF.out]; exact HO.out.mono E1.out.size, E1.out.trans HE.out⟩
end Go.Proofs.Ytpegckmagiaggaa
