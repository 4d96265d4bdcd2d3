/- StepLabels, OrderCosts of the program, of a valid order. -/
import Derived.Test.YtpegckmagiaggaaTOrdO
set_option linter.unusedSimpArgs false
set_option linter.unusedVariables false
namespace Go.Proofs.Ytpegckmagiaggaa
open Go.RowKit
set_option maxRecDepth 100000 in
set_option maxHeartbeats 4000000 in
theorem orderCosts_any {k p n : Int} (hr : ringOk k p n = true) {dm : Int → Int} {U : List Int} {ts : List (NT k p n)} {op : List Int} (hN : IsN k p n dm U ts op) (tv ov : Value) (w : World) (hT : TensS w tv (ts.map (tenOf dm))) (hO : IntS w ov op) {os : List (Int × Int)} (hok : okO (numL ts.length) (ts.length : Int) os) (hol : os.length = ts.length - 1) (vo : Value) (hVo : StepsS w vo os) :
 Calls Try.prog 52 #[.agg #[.int .i64 k, .int .i64 p, .int .i64 n, tv, ov], vo] w fun e w' => ∃ u, e = .returned u ∧ OwnI w' w.heap.size u (costsT hr dm op (numL ts.length) (ts.length : Int) ts os os.length) ∧ Ext w w' := by
 have hT0 := hT
 have hO0 := hO
 obtain ⟨m, hm⟩ : ∃ m, ts.length = m := ⟨_, rfl⟩
 obtain ⟨aV, cV, rfl, hcT1, hcT2⟩ := hT.val
 obtain ⟨aO, cO, rfl, hcO1, hcO2⟩ := hO.val
 rw [List.length_map, hm] at hT hT0 hcT1
 rw [List.length_map, hm]
 have hm12 : m ≤ 12 := by rw [← hm]; exact hN.len
 have hop12 : op.length ≤ 12 := hN.rank
 have HM := Lib.hid hm; have HR := Lib.hid hr; have HN := Lib.hid hN; have HD3 := Lib.hid hN.dims3; clear hm  hN
 have hTl : Hid ((ts.map (tenOf dm)).length = m) := Lib.hid (by rw [List.length_map]; exact HM.out)
 have hm2 := HM
 obtain ⟨aQ, cQ, rfl, hcq1, hcq2⟩ := hVo.val
 have HOK := Lib.hid hok; have HOL := Lib.hid hol
 have hol2 : os.length ≤ m := by rw [← hm2.out]; omega
 clear hok hol
 go_enter Try.func52, Try.ntmps52
 go_upto_region 1 with fail
 have hH : Held w w [] := Held.new (Ext.refl w) 0
 have hB : Held w (w.alloc (.cells #[.int .i64 k, .int .i64 p, .int .i64 n, .slice aV m cV, .slice aO op.length cO] 29)) [aB (w.heap.size) 29 [.int .i64 k, .int .i64 p, .int .i64 n, .slice aV m cV, .slice aO op.length cO]] := by
  have h := (hH.mores 1).addB 0 #[.int .i64 k, .int .i64 p, .int .i64 n, .slice aV m cV, .slice aO op.length cO] 29
  exact h
 have hsz : (w.alloc (.cells #[.int .i64 k, .int .i64 p, .int .i64 n, .slice aV m cV, .slice aO op.length cO] 29)).heap.size = w.heap.size + 1 := by simp
 generalize w.alloc (.cells #[.int .i64 k, .int .i64 p, .int .i64 n, .slice aV m cV, .slice aO op.length cO] 29) = wn1 at hB hsz ⊢
 replace hH := hB; have HSZwn1 := Lib.hid hsz; clear hB hsz
 have hos12 : os.length ≤ 12 := by omega
 have q0_0 := hH.cl 0 0 rfl rfl; have q0_1 := hH.cl 0 1 rfl rfl; have q0_2 := hH.cl 0 2 rfl rfl; have q0_3 := hH.cl 0 3 rfl rfl; have q0_4 := hH.cl 0 4 rfl rfl; have l0_ := hH.bl 0 rfl
 go_wp2_with fail
 clear q0_0 q0_1 q0_2 q0_3 q0_4 l0_
 refine (orderOk_any HR.out HN.out _ _ _ (hT0.ext hH.ext) (hO0.ext hH.ext) HOK.out HOL.out _ (hVo.ext hH.ext)).mono ?_; rintro e0 w0 ⟨rfl, h0⟩
 replace hH := hH.grow h0; clear h0
 have q0_0 := hH.cl 0 0 rfl rfl; have q0_1 := hH.cl 0 1 rfl rfl; have q0_2 := hH.cl 0 2 rfl rfl; have q0_3 := hH.cl 0 3 rfl rfl; have q0_4 := hH.cl 0 4 rfl rfl; have l0_ := hH.bl 0 rfl
 go_wp2_with fail
 clear q0_0 q0_1 q0_2 q0_3 q0_4 l0_
 refine (startState_any HR.out HN.out _ _ _ (hT0.ext hH.ext) (hO0.ext hH.ext)).mono ?_; rintro e1 w1 ⟨s, cs0, rfl, h1, hsw1, hS0, hc0⟩
 have hE0 := hH.ext.trans h1
 have hsw : w.heap.size ≤ s := Nat.le_trans hH.ext.size hsw1
 have HC0 := Lib.hid hc0
 clear h1 hsw1 hc0
 clear hH
 go_wp2_with fail
 have hsw1 := hS0.lt
 have hE1 := Lib.hid hE0
 go_loopw [5, 19] (fun vc i wr => ∃ (j : Nat) (cs : List (Int × Value)) (ns : List Int) (tj : List (NT k p n)), j ≤ os.length ∧ i = .int .i64 (j : Int) ∧ Hid (AtStep hr dm U op (numL ts.length) (ts.length : Int) ts os j ns tj) ∧ Hid (cs.map (·.1) = ns) ∧ OrdV wr s vc (arrL dm (occ ts)) op cs (tj.map (·.1)) ((ts.length : Int) + j) ∧ HeldX (some s) w1 wr [aI vc (costsT hr dm op (numL ts.length) (ts.length : Int) ts os j)] ∧ Ext w wr) (fun vc i wr => os.length - (RowKit.intOf i).toNat)
 case atStart => exact ⟨0, cs0, numL ts.length, ts, Nat.zero_le _, rfl, Lib.hid (AtStep.mk' HOK.out (numL_len _) HN.out 0 (Nat.zero_le _)), HC0, by rw [show (ts.length : Int) + ((0 : Nat) : Int) = (ts.length : Int) by simp]; exact OrdV.nil hS0 rfl, (HeldX.newX (grown_refl w1 (some s)) 0).nilI, hE0⟩
 case round =>
  clear hE0 hS0 HC0
  obtain ⟨j, cs, ns, tj, hj, rfl, HA, HC, hSV, hX, hE⟩ := hrel
  obtain ⟨CJ, hCJ⟩ : ∃ q, (costsT hr dm op (numL ts.length) (ts.length : Int) ts os j) = q := ⟨_, rfl⟩
  have HCL : Hid (CJ.length = j) := Lib.hid (by rw [← hCJ]; exact costsT_len j)
  have hxo := hX.own (k := 0) rfl
  rw [hCJ] at hxo hX
  obtain ⟨aC, cC, rfl⟩ := hxo.shape1 j HCL.out
  have HCJ := Lib.hid hCJ; clear hCJ hxo
  by_cases hlt : j < os.length
  ·
   obtain ⟨w3, rfl⟩ : ∃ q, q = wr := ⟨wr, rfl⟩
   have hS := hSV.st
   obtain ⟨bS, oS, ea, eb, haq, hos, hs0, hs1⟩ := hVo.get hlt
   subst haq
   replace hs0 := hE.cell hs0; replace hs1 := hE.cell hs1
   obtain ⟨hA2, hma, hmb, hab⟩ := HA.out.next HOK.out (numL_len _) HN.out hos
   simp only at hma hmb hab
   rw [← HC.out] at hma hmb
   have hleft := HA.out.left
   rw [HM.out] at hleft
   have hll : (tj.map (·.1)).length ≤ 1000 := by rw [List.length_map]; omega
   have hrk : ∀ l ∈ tj.map (·.1), l.length ≤ 500 := fun l hl => Nat.le_trans (HA.out.rank l hl) (by omega)
   have hnx0 : (0 : Int) ≤ (ts.length : Int) + j := by omega
   have hnx1 : (ts.length : Int) + j ≤ 2000 := by rw [HM.out]; omega
   have HRK2 := Lib.hid hrk; have HA2 := Lib.hid hA2; have HOS2 := Lib.hid hos; have HMA := Lib.hid hma; have HMB := Lib.hid hmb; have HNX := Lib.hid (And.intro hnx0 hnx1); have HLL2 := Lib.hid hll
   clear hrk hA2 hos hma hmb hnx0 hnx1 hleft hll
   obtain ⟨pi, hpi, hpi2⟩ := find_nat HMA.out
   obtain ⟨pj, hpj, hpj2⟩ := find_nat HMB.out
   have hcl : (cs.map (·.1)).length = tj.length := by rw [HC.out]; exact HA.out.len
   have hil : pi < tj.length := by have := (List.getElem?_eq_some_iff.1 hpi2).1; omega
   have hjl : pj < tj.length := by have := (List.getElem?_eq_some_iff.1 hpj2).1; omega
   have HPI := Lib.hid hpi; have HPJ := Lib.hid hpj
   have HPL := Lib.hid (fun (wx : World) (hS : OrdS wx s (arrL dm (occ ts)) op cs (tj.map (·.1)) ((ts.length : Int) + j)) (x : Int) => place_any (arrL_length _ _) wx hS HLL2.out x)
   have HSZ := Lib.hid (fun (wx : World) (hS : OrdS wx s (arrL dm (occ ts)) op cs (tj.map (·.1)) ((ts.length : Int) + j)) (L : List Int) => size_any (dm := dm) (S := occ ts) (L := L) wx hS HLL2.out)
   have HOS : Hid (OrdS w3 s (arrL dm (occ ts)) op cs (tj.map (·.1)) ((ts.length : Int) + j)) := Lib.hid hS
   clear hpi2 hpj2 hcl hpi hpj
   obtain ⟨ov, lv, hB, hov, hovs, hLv⟩ := hS.has
   obtain ⟨aV, cV, rfl, hcV1, hcV2⟩ := hLv.val
   obtain ⟨mj, hmj⟩ : ∃ q, tj.length = q := ⟨_, rfl⟩
   have HMJ := Lib.hid hmj
   rw [List.length_map, hmj] at hLv hcV1 hB
   have k101 := (state_100 (arrL_length _ _) hB).2.1
   have kst := hB.lt
   clear hB hov hovs hmj
   rw [HMJ.out] at hil hjl
   obtain ⟨bL, oL, ca, la, hV, hcj, hlj, hq0a, hq1a, hIa⟩ := hLv.get (i := pi) (by rw [List.length_map, HMJ.out]; exact hil)
   subst hV
   obtain ⟨na, ua⟩ := ca
   simp only at hq0a hq1a hIa
   obtain ⟨eaa, eca, rfl, _, _⟩ := hIa.val
   rw [Nat.mul_comm 2 (pi)] at hq0a hq1a
   rw [← Nat.add_assoc] at hq1a
   have HLa := Lib.hid (show labAt (tj.map (·.1)) (pi) = la from labAt_get hlj)
   have HMta : Hid (∃ t ∈ tj, t.1 = la) := Lib.hid (by rw [List.getElem?_map] at hlj; obtain ⟨t, ht, he⟩ := Option.map_eq_some_iff.1 hlj; exact ⟨t, List.mem_of_getElem? ht, he⟩)
   clear hcj hlj
   obtain ⟨_, _, cb, lb, hV, hcj, hlj, hq0b, hq1b, hIb⟩ := hLv.get (i := pj) (by rw [List.length_map, HMJ.out]; exact hjl)
   cases hV
   obtain ⟨nb, ub⟩ := cb
   simp only at hq0b hq1b hIb
   obtain ⟨eab, ecb, rfl, _, _⟩ := hIb.val
   rw [Nat.mul_comm 2 (pj)] at hq0b hq1b
   rw [← Nat.add_assoc] at hq1b
   have HLb := Lib.hid (show labAt (tj.map (·.1)) (pj) = lb from labAt_get hlj)
   have HMtb : Hid (∃ t ∈ tj, t.1 = lb) := Lib.hid (by rw [List.getElem?_map] at hlj; obtain ⟨t, ht, he⟩ := Option.map_eq_some_iff.1 hlj; exact ⟨t, List.mem_of_getElem? ht, he⟩)
   clear hcj hlj
   have hla12 : la.length ≤ 12 := by obtain ⟨t, ht, he⟩ := HMta.out; rw [← he]; exact (HA.out.isN.ten t ht).ax.rank
   have hlb12 : lb.length ≤ 12 := by obtain ⟨t, ht, he⟩ := HMtb.out; rw [← he]; exact (HA.out.isN.ten t ht).ax.rank
   obtain ⟨JN, hJN⟩ : ∃ q, joinL la lb = q := ⟨_, rfl⟩
   have hjl12 := joinL_len la lb
   rw [hJN] at hjl12
   have HJN := Lib.hid hJN; clear hJN
   have HSK := Lib.hid (HA.out.szOk HOK.out (numL_len _) (L := JN) (fun x hx => by
    rw [← HJN.out] at hx
    rcases mem_joinL.1 hx with hx | hx
    · obtain ⟨t, ht, he⟩ := HMta.out; rw [← he] at hx; exact mem_occ.2 ⟨t, ht, hx⟩
    · obtain ⟨t, ht, he⟩ := HMtb.out; rw [← he] at hx; exact mem_occ.2 ⟨t, ht, hx⟩) (by
    rw [← HJN.out]
    obtain ⟨t, ht, he⟩ := HMta.out
    obtain ⟨t', ht', he'⟩ := HMtb.out
    rw [← he, ← he']
    exact ((HA.out.isN.ten t ht).sub.join (HA.out.isN.ten t' ht').sub).nodup))
   have HCO : Hid (costAt hr dm op (numL ts.length) (ts.length : Int) ts os j = prodL (JN.map dm)) := Lib.hid (by
    rw [HA.out.cost HOS2.out]
    unfold costJ szL
    rw [← HC.out, HPI.out, HPJ.out]
    show prodL ((joinL (labAt (tj.map (·.1)) pi) (labAt (tj.map (·.1)) pj)).map dm) = _
    rw [HLa.out, HLb.out, HJN.out])
   have HC1 : Hid ((costsT hr dm op (numL ts.length) (ts.length : Int) ts os (j + 1)) = CJ ++ [prodL (JN.map dm)]) := Lib.hid (by rw [costsT_succ, HCJ.out, HCO.out])
   obtain ⟨PJ, hPJ⟩ : ∃ q, prodL (JN.map dm) = q := ⟨_, rfl⟩
   rw [hPJ] at HC1
   have HPJN := Lib.hid hPJ; clear hPJ
   have hH : Held w3 w3 [] := Held.new (Ext.refl w3) 0
   clear hS
   have c_hs0 := hH.ext.cell hs0; have c_hs1 := hH.ext.cell hs1; have c_k101 := hH.ext.cell k101; have c_hq0a := hH.ext.cell hq0a; have c_hq1a := hH.ext.cell hq1a; have c_hq0b := hH.ext.cell hq0b; have c_hq1b := hH.ext.cell hq1b
   have c_kst := Nat.lt_of_lt_of_le kst hH.ext.size
   go_upto_region 8 with fail
   clear c_hs0 c_hs1 c_k101 c_hq0a c_hq1a c_hq0b c_hq1b c_kst
   have hB : Held w3 (w3.alloc (.cells #[.int .i64 ea, .int .i64 eb] 138)) [aB (w3.heap.size) 138 [.int .i64 ea, .int .i64 eb]] := by
    have h := (hH.mores 1).addB 0 #[.int .i64 ea, .int .i64 eb] 138
    exact h
   have hsz : (w3.alloc (.cells #[.int .i64 ea, .int .i64 eb] 138)).heap.size = w3.heap.size + 1 := by simp
   generalize w3.alloc (.cells #[.int .i64 ea, .int .i64 eb] 138) = wn2 at hB hsz ⊢
   replace hH := hB; have HSZwn2 := Lib.hid hsz; clear hB hsz
   obtain ⟨wz, rfl⟩ : ∃ q, q = wn2 := ⟨wn2, rfl⟩
   refine wp_region_steps ?Fa (fun b t wx => Held w3 wx [aB (w3.heap.size) 138 [.int .i64 ea, .int .i64 eb]] ∧ (b 0 = true → t 0 = .pointer (some ⟨s, 0, none⟩)) ∧ (b 1 = true → t 1 = .pointer (some ⟨w3.heap.size, 0, none⟩)) ∧ (b 2 = true → t 2 = .int .i64 ea) ∧ (b 3 = true → t 3 = .int .i64 (pi : Int)) ∧ (b 4 = true → t 4 = .pointer (some ⟨s, 0, none⟩)) ∧ (b 5 = true → t 5 = .pointer (some ⟨w3.heap.size, 1, none⟩)) ∧ (b 6 = true → t 6 = .int .i64 eb) ∧ (b 7 = true → t 7 = .int .i64 (pj : Int)) ∧ (b 8 = true → t 8 = t 3) ∧ (b 9 = true → t 9 = t 7)) ?hFa (by kernel_rfl) (by kernel_rfl) ?hJa ?hSa ?hEa
   (case hFa => intro t; simp only [putAll, Act.put, List.setIfInBounds_toArray, List.set_cons_zero, List.set_cons_succ, Nat.reduceAdd, Nat.zero_add]; exact rfl)
   case hJa => exact ⟨hH.grow ((Ext.refl _).drew), fun h => absurd h Bool.false_ne_true, fun h => absurd h Bool.false_ne_true, fun h => absurd h Bool.false_ne_true, fun h => absurd h Bool.false_ne_true, fun h => absurd h Bool.false_ne_true, fun h => absurd h Bool.false_ne_true, fun h => absurd h Bool.false_ne_true, fun h => absurd h Bool.false_ne_true, fun h => absurd h Bool.false_ne_true, fun h => absurd h Bool.false_ne_true⟩
   case hSa => as_aux_lemma =>
     refine AllSteps.cons (j := 1) rfl (fun b t wx hJ hb hd hcl Kc hK => ?_) ?_
     · obtain ⟨hH, v0, v1, v2, v3, v4, v5, v6, v7, v8, v9⟩ := hJ
       go_simp
       refine hK.out _ ?_ _ ?_ ?_; rotate_left 2
       · rfl
       exact ⟨hH, fun _ => rfl, v1, v2, v3, v4, v5, v6, v7, v8, v9⟩
     refine AllSteps.cons (j := 2) rfl (fun b t wx hJ hb hd hcl Kc hK => ?_) ?_
     · obtain ⟨hH, v0, v1, v2, v3, v4, v5, v6, v7, v8, v9⟩ := hJ
       go_simp
       refine hK.out _ ?_ _ ?_ ?_; rotate_left 2
       · rfl
       exact ⟨hH, v0, fun _ => rfl, v2, v3, v4, v5, v6, v7, v8, v9⟩
     refine AllSteps.cons (j := 3) rfl (fun b t wx hJ hb hd hcl Kc hK => ?_) ?_
     · obtain ⟨hH, v0, v1, v2, v3, v4, v5, v6, v7, v8, v9⟩ := hJ
       have d1 := hd.out 1 (by kernel_rfl); have r1 := v1 d1; have q0_0 := hH.cl 0 0 rfl rfl
       go_simp
       refine hK.out _ ?_ _ ?_ ?_; rotate_left 2
       · (try simp only [r1]); rfl
       exact ⟨hH, v0, v1, fun _ => rfl, v3, v4, v5, v6, v7, v8, v9⟩
     refine AllSteps.cons (j := 4) rfl (fun b t wx hJ hb hd hcl Kc hK => ?_) ?_
     · obtain ⟨hH, v0, v1, v2, v3, v4, v5, v6, v7, v8, v9⟩ := hJ
       have d0 := hd.out 0 (by kernel_rfl); have d2 := hd.out 2 (by kernel_rfl)
       have n8 : b 8 = false := Bool.eq_false_iff.2 fun h => absurd (hcl.out 8 3 (by kernel_rfl) (h)) (by rw [hb]; exact Bool.false_ne_true)
       have r0 := v0 d0; have r2 := v2 d2
       go_simp
       go_at_call 136
       refine (HPL.out _ (HOS.out.ext hH.ext) ea).mono ?_; rintro e3 w3 ⟨rfl, h3⟩
       rw [HPI.out]
       (try go_simp)
       refine hK.out _ ?_ _ ?_ ?_; rotate_left 2
       · (try simp only [r0, r2]); rfl
       exact ⟨by have hX := hH.grow h3; simpa only [List.set_cons_zero, List.set_cons_succ, updB, updV, blkOf_mk, tup0_mk, partsOf3, Nat.reduceBEq, cond_true, cond_false, hb, d0, d2, n8, r0, r2] using hX, v0, v1, v2, fun _ => rfl, v4, v5, v6, v7, fun h => absurd (show b 8 = true from h) (by rw [n8]; exact Bool.false_ne_true), v9⟩
     refine AllSteps.cons (j := 5) rfl (fun b t wx hJ hb hd hcl Kc hK => ?_) ?_
     · obtain ⟨hH, v0, v1, v2, v3, v4, v5, v6, v7, v8, v9⟩ := hJ
       go_simp
       refine hK.out _ ?_ _ ?_ ?_; rotate_left 2
       · rfl
       exact ⟨hH, v0, v1, v2, v3, fun _ => rfl, v5, v6, v7, v8, v9⟩
     refine AllSteps.cons (j := 6) rfl (fun b t wx hJ hb hd hcl Kc hK => ?_) ?_
     · obtain ⟨hH, v0, v1, v2, v3, v4, v5, v6, v7, v8, v9⟩ := hJ
       go_simp
       refine hK.out _ ?_ _ ?_ ?_; rotate_left 2
       · rfl
       exact ⟨hH, v0, v1, v2, v3, v4, fun _ => rfl, v6, v7, v8, v9⟩
     refine AllSteps.cons (j := 7) rfl (fun b t wx hJ hb hd hcl Kc hK => ?_) ?_
     · obtain ⟨hH, v0, v1, v2, v3, v4, v5, v6, v7, v8, v9⟩ := hJ
       have d5 := hd.out 5 (by kernel_rfl); have r5 := v5 d5; have q0_1 := hH.cl 0 1 rfl rfl
       go_simp
       refine hK.out _ ?_ _ ?_ ?_; rotate_left 2
       · (try simp only [r5]); rfl
       exact ⟨hH, v0, v1, v2, v3, v4, v5, fun _ => rfl, v7, v8, v9⟩
     refine AllSteps.cons (j := 8) rfl (fun b t wx hJ hb hd hcl Kc hK => ?_) ?_
     · obtain ⟨hH, v0, v1, v2, v3, v4, v5, v6, v7, v8, v9⟩ := hJ
       have d3 := hd.out 3 (by kernel_rfl); have d4 := hd.out 4 (by kernel_rfl); have d6 := hd.out 6 (by kernel_rfl)
       have n9 : b 9 = false := Bool.eq_false_iff.2 fun h => absurd (hcl.out 9 7 (by kernel_rfl) (h)) (by rw [hb]; exact Bool.false_ne_true)
       have r3 := v3 d3; have r4 := v4 d4; have r6 := v6 d6
       go_simp
       go_at_call 136
       refine (HPL.out _ (HOS.out.ext hH.ext) eb).mono ?_; rintro e7 w7 ⟨rfl, h7⟩
       rw [HPJ.out]
       (try go_simp)
       refine hK.out _ ?_ _ ?_ ?_; rotate_left 2
       · (try simp only [r3, r4, r6]); rfl
       exact ⟨by have hX := hH.grow h7; simpa only [List.set_cons_zero, List.set_cons_succ, updB, updV, blkOf_mk, tup0_mk, partsOf3, Nat.reduceBEq, cond_true, cond_false, hb, d3, d4, d6, n9, r3, r4, r6] using hX, v0, v1, v2, v3, v4, v5, v6, fun _ => rfl, v8, fun h => absurd (show b 9 = true from h) (by rw [n9]; exact Bool.false_ne_true)⟩
     refine AllSteps.cons (j := 9) rfl (fun b t wx hJ hb hd hcl Kc hK => ?_) ?_
     · obtain ⟨hH, v0, v1, v2, v3, v4, v5, v6, v7, v8, v9⟩ := hJ
       have d0 := hd.out 0 (by kernel_rfl); have d1 := hd.out 1 (by kernel_rfl); have d2 := hd.out 2 (by kernel_rfl); have d3 := hd.out 3 (by kernel_rfl); have d7 := hd.out 7 (by kernel_rfl); have r0 := v0 d0; have r1 := v1 d1; have r2 := v2 d2; have r3 := v3 d3; have r7 := v7 d7
       go_simp
       refine hK.out _ ?_ _ ?_ ?_; rotate_left 2
       · (try simp only [r0, r1, r2, r3, r7]); rfl
       exact ⟨hH, v0, v1, v2, v3, v4, v5, v6, v7, fun _ => (by first | rfl | exact r3.symm), v9⟩
     refine AllSteps.cons (j := 10) rfl (fun b t wx hJ hb hd hcl Kc hK => ?_) ?_
     · obtain ⟨hH, v0, v1, v2, v3, v4, v5, v6, v7, v8, v9⟩ := hJ
       have d0 := hd.out 0 (by kernel_rfl); have d1 := hd.out 1 (by kernel_rfl); have d2 := hd.out 2 (by kernel_rfl); have d3 := hd.out 3 (by kernel_rfl); have d4 := hd.out 4 (by kernel_rfl); have d5 := hd.out 5 (by kernel_rfl); have d6 := hd.out 6 (by kernel_rfl); have d7 := hd.out 7 (by kernel_rfl); have d8 := hd.out 8 (by kernel_rfl); have r0 := v0 d0; have r1 := v1 d1; have r2 := v2 d2; have r3 := v3 d3; have r4 := v4 d4; have r5 := v5 d5; have r6 := v6 d6; have r7 := v7 d7; have r8 := v8 d8
       go_simp
       refine hK.out _ ?_ _ ?_ ?_; rotate_left 2
       · (try simp only [r0, r1, r2, r3, r4, r5, r6, r7, r8]); rfl
       exact ⟨hH, v0, v1, v2, v3, v4, v5, v6, v7, v8, fun _ => (by first | rfl | exact r7.symm)⟩
     exact AllSteps.nil
   case hEa =>
    intro b t wa hJ hall
    obtain ⟨hHa, v0, v1, v2, v3, v4, v5, v6, v7, v8, v9⟩ := hJ
    have a0 := hall 0 (by decide); have a1 := hall 1 (by decide); have a2 := hall 2 (by decide); have a3 := hall 3 (by decide); have a4 := hall 4 (by decide); have a5 := hall 5 (by decide); have a6 := hall 6 (by decide); have a7 := hall 7 (by decide); have a8 := hall 8 (by decide); have a9 := hall 9 (by decide)
    (try simp only [a0, a1, a2, a3, a4, a5, a6, a7, a8, a9, cond_true] at hHa)
    replace v0 := v0 a0; replace v1 := v1 a1; replace v2 := v2 a2; replace v3 := v3 a3; replace v4 := v4 a4; replace v5 := v5 a5; replace v6 := v6 a6; replace v7 := v7 a7; replace v8 := v8 a8; replace v9 := v9 a9
    clear hall a0 a1 a2 a3 a4 a5 a6 a7 a8 a9
    generalize t 9 = x9 at hHa v9 ⊢; generalize t 8 = x8 at hHa v8 ⊢; generalize t 7 = x7 at hHa v7 v9 ⊢; generalize t 6 = x6 at hHa v6 ⊢; generalize t 5 = x5 at hHa v5 ⊢; generalize t 4 = x4 at hHa v4 ⊢; generalize t 3 = x3 at hHa v3 v8 ⊢; generalize t 2 = x2 at hHa v2 ⊢; generalize t 1 = x1 at hHa v1 ⊢; generalize t 0 = x0 at hHa v0 ⊢; subst v0; subst v1; subst v2; subst v3; subst v4; subst v5; subst v6; subst v7; subst v8; subst v9
    clear b
    replace hH := hHa; clear hHa
    replace hH : Held w3 wa [aB (w3.heap.size) 138 [.int .i64 ea, .int .i64 eb]] := hH
    obtain ⟨wy, rfl⟩ : ∃ q, q = wa := ⟨wa, rfl⟩
    have hX2 := hX.grow hH.ext; have hSV2 := hSV.ext hH.ext; have hE3 : OrExt false w3 wy := .inr hH.ext
    clear hH; have hH := hX2; have hSVx := hSV2; clear hX2 hX hSV2 hSV
    go_upto_region 9 with fail
    replace hH := hH.mores 2
    replace hH : HeldX (some s) w1 wy [aI (.slice aC j cC) CJ, emp, emp] := hH
    refine wp_region_steps ?Fc (fun b t wx => HeldX (some s) w1 wx [(bif b 21 then aI (t 21) (CJ ++ [PJ]) else aI (.slice aC j cC) CJ), (bif b 18 then aI (t 18) JN else emp), (bif b 20 then aI (t 20) [PJ] else emp)] ∧ OrExt (b 21) w3 wx ∧ OrdV wx s (bif b 21 then t 21 else .slice aC j cC) (arrL dm (occ ts)) op cs (tj.map (·.1)) ((ts.length : Int) + j) ∧ (b 0 = true → t 0 = .slice aC j cC) ∧ (b 1 = true → t 1 = .pointer (some ⟨s, 0, none⟩)) ∧ (b 2 = true → t 2 = .pointer (some ⟨s, 0, none⟩)) ∧ (b 3 = true → t 3 = .pointer (some ⟨s, 0, none⟩)) ∧ (b 4 = true → t 4 = .pointer (some ⟨s, 101, none⟩)) ∧ (b 5 = true → t 5 = .slice (some ⟨bL, oL, none⟩) mj cV) ∧ (b 6 = true → t 6 = .int .i64 (pi : Int)) ∧ (b 7 = true → t 7 = .pointer (some ⟨bL, oL + pi * 2, none⟩)) ∧ (b 8 = true → t 8 = .pointer (some ⟨bL, oL + pi * 2 + 1, none⟩)) ∧ (b 9 = true → t 9 = .slice eaa la.length eca) ∧ (b 10 = true → t 10 = .pointer (some ⟨s, 0, none⟩)) ∧ (b 11 = true → t 11 = .pointer (some ⟨s, 0, none⟩)) ∧ (b 12 = true → t 12 = .pointer (some ⟨s, 101, none⟩)) ∧ (b 13 = true → t 13 = .slice (some ⟨bL, oL, none⟩) mj cV) ∧ (b 14 = true → t 14 = .int .i64 (pj : Int)) ∧ (b 15 = true → t 15 = .pointer (some ⟨bL, oL + pj * 2, none⟩)) ∧ (b 16 = true → t 16 = .pointer (some ⟨bL, oL + pj * 2 + 1, none⟩)) ∧ (b 17 = true → t 17 = .slice eab lb.length ecb) ∧ (b 18 = true → ∃ x c, t 18 = .slice x JN.length c) ∧ (b 19 = true → t 19 = .int .i64 PJ) ∧ (b 20 = true → ∃ x c, t 20 = .slice x 1 c) ∧ (b 21 = true → ∃ x c, t 21 = .slice x (j + 1) c) ∧ (b 22 = true → t 22 = t 21) ∧ Hid (b 22 = false → t 22 = .slice aC j cC)) ?hFc (by kernel_rfl) (by kernel_rfl) ?hJc ?hSc ?hEc
    (case hFc => intro t; simp only [putAll, Act.put, List.setIfInBounds_toArray, List.set_cons_zero, List.set_cons_succ, Nat.reduceAdd, Nat.zero_add]; exact rfl)
    case hJc => exact ⟨hH.grow ((Ext.refl _).drew), hE3.ext ((Ext.refl _).drew), hSVx.ext ((Ext.refl _).drew), fun h => absurd h Bool.false_ne_true, fun h => absurd h Bool.false_ne_true, fun h => absurd h Bool.false_ne_true, fun h => absurd h Bool.false_ne_true, fun h => absurd h Bool.false_ne_true, fun h => absurd h Bool.false_ne_true, fun h => absurd h Bool.false_ne_true, fun h => absurd h Bool.false_ne_true, fun h => absurd h Bool.false_ne_true, fun h => absurd h Bool.false_ne_true, fun h => absurd h Bool.false_ne_true, fun h => absurd h Bool.false_ne_true, fun h => absurd h Bool.false_ne_true, fun h => absurd h Bool.false_ne_true, fun h => absurd h Bool.false_ne_true, fun h => absurd h Bool.false_ne_true, fun h => absurd h Bool.false_ne_true, fun h => absurd h Bool.false_ne_true, fun h => absurd h Bool.false_ne_true, fun h => absurd h Bool.false_ne_true, fun h => absurd h Bool.false_ne_true, fun h => absurd h Bool.false_ne_true, fun h => absurd h Bool.false_ne_true, Lib.hid fun _ => rfl⟩
    case hSc => as_aux_lemma =>
      refine AllSteps.cons (j := 1) rfl (fun b t wx hJ hb hd hcl Kc hK => ?_) ?_
      · obtain ⟨hH, hE3, hSVx, v0, v1, v2, v3, v4, v5, v6, v7, v8, v9, v10, v11, v12, v13, v14, v15, v16, v17, v18, v19, v20, v21, v22, old22⟩ := hJ
        have n22 : b 22 = false := Bool.eq_false_iff.2 fun h => absurd (hcl.out 22 0 (by kernel_rfl) (h)) (by rw [hb]; exact Bool.false_ne_true)
        have eo22 := old22.out n22
        go_simp
        refine hK.out _ ?_ _ ?_ ?_; rotate_left 2
        · (try simp only [eo22]); rfl
        exact ⟨hH, hE3, hSVx, fun _ => rfl, v1, v2, v3, v4, v5, v6, v7, v8, v9, v10, v11, v12, v13, v14, v15, v16, v17, v18, v19, v20, v21, v22, old22⟩
      refine AllSteps.cons (j := 2) rfl (fun b t wx hJ hb hd hcl Kc hK => ?_) ?_
      · obtain ⟨hH, hE3, hSVx, v0, v1, v2, v3, v4, v5, v6, v7, v8, v9, v10, v11, v12, v13, v14, v15, v16, v17, v18, v19, v20, v21, v22, old22⟩ := hJ
        go_simp
        refine hK.out _ ?_ _ ?_ ?_; rotate_left 2
        · rfl
        exact ⟨hH, hE3, hSVx, v0, fun _ => rfl, v2, v3, v4, v5, v6, v7, v8, v9, v10, v11, v12, v13, v14, v15, v16, v17, v18, v19, v20, v21, v22, old22⟩
      refine AllSteps.cons (j := 3) rfl (fun b t wx hJ hb hd hcl Kc hK => ?_) ?_
      · obtain ⟨hH, hE3, hSVx, v0, v1, v2, v3, v4, v5, v6, v7, v8, v9, v10, v11, v12, v13, v14, v15, v16, v17, v18, v19, v20, v21, v22, old22⟩ := hJ
        go_simp
        refine hK.out _ ?_ _ ?_ ?_; rotate_left 2
        · rfl
        exact ⟨hH, hE3, hSVx, v0, v1, fun _ => rfl, v3, v4, v5, v6, v7, v8, v9, v10, v11, v12, v13, v14, v15, v16, v17, v18, v19, v20, v21, v22, old22⟩
      refine AllSteps.cons (j := 4) rfl (fun b t wx hJ hb hd hcl Kc hK => ?_) ?_
      · obtain ⟨hH, hE3, hSVx, v0, v1, v2, v3, v4, v5, v6, v7, v8, v9, v10, v11, v12, v13, v14, v15, v16, v17, v18, v19, v20, v21, v22, old22⟩ := hJ
        have d2 := hd.out 2 (by kernel_rfl); have r2 := v2 d2
        go_simp
        refine hK.out _ ?_ _ ?_ ?_; rotate_left 2
        · (try simp only [r2]); rfl
        exact ⟨hH, hE3, hSVx, v0, v1, v2, fun _ => rfl, v4, v5, v6, v7, v8, v9, v10, v11, v12, v13, v14, v15, v16, v17, v18, v19, v20, v21, v22, old22⟩
      refine AllSteps.cons (j := 5) rfl (fun b t wx hJ hb hd hcl Kc hK => ?_) ?_
      · obtain ⟨hH, hE3, hSVx, v0, v1, v2, v3, v4, v5, v6, v7, v8, v9, v10, v11, v12, v13, v14, v15, v16, v17, v18, v19, v20, v21, v22, old22⟩ := hJ
        have d3 := hd.out 3 (by kernel_rfl); have r3 := v3 d3
        go_simp
        refine hK.out _ ?_ _ ?_ ?_; rotate_left 2
        · (try simp only [r3]); rfl
        exact ⟨hH, hE3, hSVx, v0, v1, v2, v3, fun _ => rfl, v5, v6, v7, v8, v9, v10, v11, v12, v13, v14, v15, v16, v17, v18, v19, v20, v21, v22, old22⟩
      refine AllSteps.cons (j := 6) rfl (fun b t wx hJ hb hd hcl Kc hK => ?_) ?_
      · obtain ⟨hH, hE3, hSVx, v0, v1, v2, v3, v4, v5, v6, v7, v8, v9, v10, v11, v12, v13, v14, v15, v16, v17, v18, v19, v20, v21, v22, old22⟩ := hJ
        have d4 := hd.out 4 (by kernel_rfl)
        have n21 : b 21 = false := Bool.eq_false_iff.2 fun h => absurd (hcl.out 7 5 (by kernel_rfl) (hcl.out 8 7 (by kernel_rfl) (hcl.out 9 8 (by kernel_rfl) (hcl.out 18 9 (by kernel_rfl) (hcl.out 19 18 (by kernel_rfl) (hcl.out 21 19 (by kernel_rfl) (h))))))) (by rw [hb]; exact Bool.false_ne_true)
        have r4 := v4 d4
        have c_k101 := (hE3.out n21).cell k101
        go_simp
        refine hK.out _ ?_ _ ?_ ?_; rotate_left 2
        · (try simp only [r4]); rfl
        exact ⟨hH, hE3, hSVx, v0, v1, v2, v3, v4, fun _ => rfl, v6, v7, v8, v9, v10, v11, v12, v13, v14, v15, v16, v17, v18, v19, v20, v21, v22, old22⟩
      refine AllSteps.cons (j := 7) rfl (fun b t wx hJ hb hd hcl Kc hK => ?_) ?_
      · obtain ⟨hH, hE3, hSVx, v0, v1, v2, v3, v4, v5, v6, v7, v8, v9, v10, v11, v12, v13, v14, v15, v16, v17, v18, v19, v20, v21, v22, old22⟩ := hJ
        go_simp
        refine hK.out _ ?_ _ ?_ ?_; rotate_left 2
        · rfl
        exact ⟨hH, hE3, hSVx, v0, v1, v2, v3, v4, v5, fun _ => rfl, v7, v8, v9, v10, v11, v12, v13, v14, v15, v16, v17, v18, v19, v20, v21, v22, old22⟩
      refine AllSteps.cons (j := 8) rfl (fun b t wx hJ hb hd hcl Kc hK => ?_) ?_
      · obtain ⟨hH, hE3, hSVx, v0, v1, v2, v3, v4, v5, v6, v7, v8, v9, v10, v11, v12, v13, v14, v15, v16, v17, v18, v19, v20, v21, v22, old22⟩ := hJ
        have d5 := hd.out 5 (by kernel_rfl); have d6 := hd.out 6 (by kernel_rfl); have r5 := v5 d5; have r6 := v6 d6
        go_simp
        refine hK.out _ ?_ _ ?_ ?_; rotate_left 2
        · (try simp only [r5, r6]); rfl
        exact ⟨hH, hE3, hSVx, v0, v1, v2, v3, v4, v5, v6, fun _ => rfl, v8, v9, v10, v11, v12, v13, v14, v15, v16, v17, v18, v19, v20, v21, v22, old22⟩
      refine AllSteps.cons (j := 9) rfl (fun b t wx hJ hb hd hcl Kc hK => ?_) ?_
      · obtain ⟨hH, hE3, hSVx, v0, v1, v2, v3, v4, v5, v6, v7, v8, v9, v10, v11, v12, v13, v14, v15, v16, v17, v18, v19, v20, v21, v22, old22⟩ := hJ
        have d7 := hd.out 7 (by kernel_rfl); have r7 := v7 d7
        go_simp
        refine hK.out _ ?_ _ ?_ ?_; rotate_left 2
        · (try simp only [r7]); rfl
        exact ⟨hH, hE3, hSVx, v0, v1, v2, v3, v4, v5, v6, v7, fun _ => rfl, v9, v10, v11, v12, v13, v14, v15, v16, v17, v18, v19, v20, v21, v22, old22⟩
      refine AllSteps.cons (j := 10) rfl (fun b t wx hJ hb hd hcl Kc hK => ?_) ?_
      · obtain ⟨hH, hE3, hSVx, v0, v1, v2, v3, v4, v5, v6, v7, v8, v9, v10, v11, v12, v13, v14, v15, v16, v17, v18, v19, v20, v21, v22, old22⟩ := hJ
        have d8 := hd.out 8 (by kernel_rfl)
        have n21 : b 21 = false := Bool.eq_false_iff.2 fun h => absurd (hcl.out 18 9 (by kernel_rfl) (hcl.out 19 18 (by kernel_rfl) (hcl.out 21 19 (by kernel_rfl) (h)))) (by rw [hb]; exact Bool.false_ne_true)
        have r8 := v8 d8
        have c_hq1a := (hE3.out n21).cell hq1a
        go_simp
        refine hK.out _ ?_ _ ?_ ?_; rotate_left 2
        · (try simp only [r8]); rfl
        exact ⟨hH, hE3, hSVx, v0, v1, v2, v3, v4, v5, v6, v7, v8, fun _ => rfl, v10, v11, v12, v13, v14, v15, v16, v17, v18, v19, v20, v21, v22, old22⟩
      refine AllSteps.cons (j := 11) rfl (fun b t wx hJ hb hd hcl Kc hK => ?_) ?_
      · obtain ⟨hH, hE3, hSVx, v0, v1, v2, v3, v4, v5, v6, v7, v8, v9, v10, v11, v12, v13, v14, v15, v16, v17, v18, v19, v20, v21, v22, old22⟩ := hJ
        go_simp
        refine hK.out _ ?_ _ ?_ ?_; rotate_left 2
        · rfl
        exact ⟨hH, hE3, hSVx, v0, v1, v2, v3, v4, v5, v6, v7, v8, v9, fun _ => rfl, v11, v12, v13, v14, v15, v16, v17, v18, v19, v20, v21, v22, old22⟩
      refine AllSteps.cons (j := 12) rfl (fun b t wx hJ hb hd hcl Kc hK => ?_) ?_
      · obtain ⟨hH, hE3, hSVx, v0, v1, v2, v3, v4, v5, v6, v7, v8, v9, v10, v11, v12, v13, v14, v15, v16, v17, v18, v19, v20, v21, v22, old22⟩ := hJ
        have d10 := hd.out 10 (by kernel_rfl); have r10 := v10 d10
        go_simp
        refine hK.out _ ?_ _ ?_ ?_; rotate_left 2
        · (try simp only [r10]); rfl
        exact ⟨hH, hE3, hSVx, v0, v1, v2, v3, v4, v5, v6, v7, v8, v9, v10, fun _ => rfl, v12, v13, v14, v15, v16, v17, v18, v19, v20, v21, v22, old22⟩
      refine AllSteps.cons (j := 13) rfl (fun b t wx hJ hb hd hcl Kc hK => ?_) ?_
      · obtain ⟨hH, hE3, hSVx, v0, v1, v2, v3, v4, v5, v6, v7, v8, v9, v10, v11, v12, v13, v14, v15, v16, v17, v18, v19, v20, v21, v22, old22⟩ := hJ
        have d11 := hd.out 11 (by kernel_rfl); have r11 := v11 d11
        go_simp
        refine hK.out _ ?_ _ ?_ ?_; rotate_left 2
        · (try simp only [r11]); rfl
        exact ⟨hH, hE3, hSVx, v0, v1, v2, v3, v4, v5, v6, v7, v8, v9, v10, v11, fun _ => rfl, v13, v14, v15, v16, v17, v18, v19, v20, v21, v22, old22⟩
      refine AllSteps.cons (j := 14) rfl (fun b t wx hJ hb hd hcl Kc hK => ?_) ?_
      · obtain ⟨hH, hE3, hSVx, v0, v1, v2, v3, v4, v5, v6, v7, v8, v9, v10, v11, v12, v13, v14, v15, v16, v17, v18, v19, v20, v21, v22, old22⟩ := hJ
        have d12 := hd.out 12 (by kernel_rfl)
        have n21 : b 21 = false := Bool.eq_false_iff.2 fun h => absurd (hcl.out 15 13 (by kernel_rfl) (hcl.out 16 15 (by kernel_rfl) (hcl.out 17 16 (by kernel_rfl) (hcl.out 18 17 (by kernel_rfl) (hcl.out 19 18 (by kernel_rfl) (hcl.out 21 19 (by kernel_rfl) (h))))))) (by rw [hb]; exact Bool.false_ne_true)
        have r12 := v12 d12
        have c_k101 := (hE3.out n21).cell k101
        go_simp
        refine hK.out _ ?_ _ ?_ ?_; rotate_left 2
        · (try simp only [r12]); rfl
        exact ⟨hH, hE3, hSVx, v0, v1, v2, v3, v4, v5, v6, v7, v8, v9, v10, v11, v12, fun _ => rfl, v14, v15, v16, v17, v18, v19, v20, v21, v22, old22⟩
      refine AllSteps.cons (j := 15) rfl (fun b t wx hJ hb hd hcl Kc hK => ?_) ?_
      · obtain ⟨hH, hE3, hSVx, v0, v1, v2, v3, v4, v5, v6, v7, v8, v9, v10, v11, v12, v13, v14, v15, v16, v17, v18, v19, v20, v21, v22, old22⟩ := hJ
        go_simp
        refine hK.out _ ?_ _ ?_ ?_; rotate_left 2
        · rfl
        exact ⟨hH, hE3, hSVx, v0, v1, v2, v3, v4, v5, v6, v7, v8, v9, v10, v11, v12, v13, fun _ => rfl, v15, v16, v17, v18, v19, v20, v21, v22, old22⟩
      refine AllSteps.cons (j := 16) rfl (fun b t wx hJ hb hd hcl Kc hK => ?_) ?_
      · obtain ⟨hH, hE3, hSVx, v0, v1, v2, v3, v4, v5, v6, v7, v8, v9, v10, v11, v12, v13, v14, v15, v16, v17, v18, v19, v20, v21, v22, old22⟩ := hJ
        have d13 := hd.out 13 (by kernel_rfl); have d14 := hd.out 14 (by kernel_rfl); have r13 := v13 d13; have r14 := v14 d14
        go_simp
        refine hK.out _ ?_ _ ?_ ?_; rotate_left 2
        · (try simp only [r13, r14]); rfl
        exact ⟨hH, hE3, hSVx, v0, v1, v2, v3, v4, v5, v6, v7, v8, v9, v10, v11, v12, v13, v14, fun _ => rfl, v16, v17, v18, v19, v20, v21, v22, old22⟩
      refine AllSteps.cons (j := 17) rfl (fun b t wx hJ hb hd hcl Kc hK => ?_) ?_
      · obtain ⟨hH, hE3, hSVx, v0, v1, v2, v3, v4, v5, v6, v7, v8, v9, v10, v11, v12, v13, v14, v15, v16, v17, v18, v19, v20, v21, v22, old22⟩ := hJ
        have d15 := hd.out 15 (by kernel_rfl); have r15 := v15 d15
        go_simp
        refine hK.out _ ?_ _ ?_ ?_; rotate_left 2
        · (try simp only [r15]); rfl
        exact ⟨hH, hE3, hSVx, v0, v1, v2, v3, v4, v5, v6, v7, v8, v9, v10, v11, v12, v13, v14, v15, fun _ => rfl, v17, v18, v19, v20, v21, v22, old22⟩
      refine AllSteps.cons (j := 18) rfl (fun b t wx hJ hb hd hcl Kc hK => ?_) ?_
      · obtain ⟨hH, hE3, hSVx, v0, v1, v2, v3, v4, v5, v6, v7, v8, v9, v10, v11, v12, v13, v14, v15, v16, v17, v18, v19, v20, v21, v22, old22⟩ := hJ
        have d16 := hd.out 16 (by kernel_rfl)
        have n21 : b 21 = false := Bool.eq_false_iff.2 fun h => absurd (hcl.out 18 17 (by kernel_rfl) (hcl.out 19 18 (by kernel_rfl) (hcl.out 21 19 (by kernel_rfl) (h)))) (by rw [hb]; exact Bool.false_ne_true)
        have r16 := v16 d16
        have c_hq1b := (hE3.out n21).cell hq1b
        go_simp
        refine hK.out _ ?_ _ ?_ ?_; rotate_left 2
        · (try simp only [r16]); rfl
        exact ⟨hH, hE3, hSVx, v0, v1, v2, v3, v4, v5, v6, v7, v8, v9, v10, v11, v12, v13, v14, v15, v16, fun _ => rfl, v18, v19, v20, v21, v22, old22⟩
      refine AllSteps.cons (j := 19) rfl (fun b t wx hJ hb hd hcl Kc hK => ?_) ?_
      · obtain ⟨hH, hE3, hSVx, v0, v1, v2, v3, v4, v5, v6, v7, v8, v9, v10, v11, v12, v13, v14, v15, v16, v17, v18, v19, v20, v21, v22, old22⟩ := hJ
        have d9 := hd.out 9 (by kernel_rfl); have d17 := hd.out 17 (by kernel_rfl)
        have n21 : b 21 = false := Bool.eq_false_iff.2 fun h => absurd (hcl.out 19 18 (by kernel_rfl) (hcl.out 21 19 (by kernel_rfl) (h))) (by rw [hb]; exact Bool.false_ne_true)
        have r9 := v9 d9; have r17 := v17 d17
        have hN := hH; (try simp only [hb, d9, d17, n21, cond_true, cond_false] at hN)
        go_simp
        go_at_call 138
        refine (joinLabels_any _ _ la lb _ (hIa.ext (hE3.out n21)) (hIb.ext (hE3.out n21)) (by omega) (by omega)).mono ?_; rintro e18 w18 ⟨v18, rfl, o18, h18⟩
        rw [HJN.out] at o18
        obtain ⟨x18, c18, rfl⟩ := o18.shape1 JN.length rfl
        (try go_simp)
        refine hK.out _ ?_ _ ?_ ?_; rotate_left 2
        · (try simp only [r9, r17]); rfl
        exact ⟨by have hX := hN.addI 1 h18 o18 (Nat.le_refl _); simpa only [List.set_cons_zero, List.set_cons_succ, updB, updV, blkOf_mk, tup0_mk, partsOf3, Nat.reduceBEq, cond_true, cond_false, hb, d9, d17, n21, r9, r17] using hX, hE3.ext h18, hSVx.ext h18, v0, v1, v2, v3, v4, v5, v6, v7, v8, v9, v10, v11, v12, v13, v14, v15, v16, v17, fun _ => ⟨_, _, rfl⟩, v19, v20, v21, v22, old22⟩
      refine AllSteps.cons (j := 20) rfl (fun b t wx hJ hb hd hcl Kc hK => ?_) ?_
      · obtain ⟨hH, hE3, hSVx, v0, v1, v2, v3, v4, v5, v6, v7, v8, v9, v10, v11, v12, v13, v14, v15, v16, v17, v18, v19, v20, v21, v22, old22⟩ := hJ
        have d1 := hd.out 1 (by kernel_rfl); have d18 := hd.out 18 (by kernel_rfl); have r1 := v1 d1; have r18 := v18 d18
        obtain ⟨x_18, c_18, r18⟩ := r18
        have hN := hH; (try simp only [hb, d1, d18, cond_true, cond_false] at hN)
        go_simp
        go_at_call 137
        refine (HSZ.out _ hSVx.st JN HSK.out.1 HSK.out.2.1 HSK.out.2.2.1 HSK.out.2.2.2 _ (by have h := hN.ints (k := 1) rfl; rw [r18] at h; exact h)).mono ?_; rintro e19 w19 ⟨rfl, h19⟩
        rw [HPJN.out]
        (try go_simp)
        refine hK.out _ ?_ _ ?_ ?_; rotate_left 2
        · (try simp only [r1, r18]); rfl
        exact ⟨by have hX := hH.grow h19; simpa only [List.set_cons_zero, List.set_cons_succ, updB, updV, blkOf_mk, tup0_mk, partsOf3, Nat.reduceBEq, cond_true, cond_false, hb, d1, d18, r1, r18] using hX, hE3.ext h19, hSVx.ext h19, v0, v1, v2, v3, v4, v5, v6, v7, v8, v9, v10, v11, v12, v13, v14, v15, v16, v17, v18, fun _ => rfl, v20, v21, v22, old22⟩
      refine AllSteps.cons (j := 21) rfl (fun b t wx hJ hb hd hcl Kc hK => ?_) ?_
      · obtain ⟨hH, hE3, hSVx, v0, v1, v2, v3, v4, v5, v6, v7, v8, v9, v10, v11, v12, v13, v14, v15, v16, v17, v18, v19, v20, v21, v22, old22⟩ := hJ
        have d19 := hd.out 19 (by kernel_rfl); have r19 := v19 d19
        have hN := hH; (try simp only [hb, d19, cond_true, cond_false] at hN)
        go_simp
        refine hK.out _ ?_ _ ?_ ?_; rotate_left 2
        · (try simp only [r19]); rfl
        exact ⟨by have hX := hN.built 2 [PJ] 1 rfl (by simp [maxLen]) #[.int .i64 PJ] rfl; simpa only [List.set_cons_zero, List.set_cons_succ, updB, updV, blkOf_mk, tup0_mk, partsOf3, Nat.reduceBEq, cond_true, cond_false, hb, d19, r19] using hX, hE3.ext ((Ext.refl _).alloc _), hSVx.ext ((Ext.refl _).alloc _), v0, v1, v2, v3, v4, v5, v6, v7, v8, v9, v10, v11, v12, v13, v14, v15, v16, v17, v18, v19, fun _ => ⟨_, _, rfl⟩, v21, v22, old22⟩
      refine AllSteps.cons (j := 22) rfl (fun b t wx hJ hb hd hcl Kc hK => ?_) ?_
      · obtain ⟨hH, hE3, hSVx, v0, v1, v2, v3, v4, v5, v6, v7, v8, v9, v10, v11, v12, v13, v14, v15, v16, v17, v18, v19, v20, v21, v22, old22⟩ := hJ
        have d0 := hd.out 0 (by kernel_rfl); have d19 := hd.out 19 (by kernel_rfl); have d20 := hd.out 20 (by kernel_rfl)
        have n22 : b 22 = false := Bool.eq_false_iff.2 fun h => absurd (hcl.out 22 21 (by kernel_rfl) (h)) (by rw [hb]; exact Bool.false_ne_true)
        have r0 := v0 d0; have r19 := v19 d19; have r20 := v20 d20
        obtain ⟨x_20, c_20, r20⟩ := r20
        have hN := hH; (try simp only [hb, d0, d19, d20, n22, cond_true, cond_false] at hN)
        refine step_app wx rfl _ _ 27 rfl (.slice aC j cC) (t 20) (by first | rfl | (go_simp; done)) (by first | rfl | (go_simp; done)) _ (run_pushes _ wx 0 _ _ CJ [PJ] (hN.own (k := 0) rfl).zero (by have h := hN.ints (k := 2) rfl; exact h) (by have := HCL.out; simp; omega) (Nat.zero_le _)) ?_; rintro va wa ⟨oa, ga, na⟩; rw [show CJ ++ [PJ] = CJ ++ [PJ] from rfl] at oa
        obtain ⟨aa, ca, hva, _, _⟩ := oa.ints.val; subst hva
        refine hK.out _ ?_ _ ?_ ?_; rotate_left 2
        · (try simp only [r0, r19, r20]); rfl
        exact ⟨by have hX := hN.pushed (k := 0) rfl oa ga na; simpa only [List.set_cons_zero, List.set_cons_succ, updB, updV, blkOf_mk, tup0_mk, partsOf3, Nat.reduceBEq, cond_true, cond_false, hb, d0, d19, d20, n22, r0, r19, r20] using hX, (.inl rfl), (OrdV.push (v := .slice aC j cC) (by have h := hSVx; rw [hb] at h; exact h) ga na (fun q hq => (oa.block_lt hq).2)), v0, v1, v2, v3, v4, v5, v6, v7, v8, v9, v10, v11, v12, v13, v14, v15, v16, v17, v18, v19, v20, fun _ => ⟨_, _, by rw [show (CJ ++ [PJ]).length = j + 1 by rw [List.length_append, HCL.out]; rfl]; rfl⟩, fun h => absurd (show b 22 = true from h) (by rw [n22]; exact Bool.false_ne_true), old22⟩
      refine AllSteps.cons (j := 23) rfl (fun b t wx hJ hb hd hcl Kc hK => ?_) ?_
      · obtain ⟨hH, hE3, hSVx, v0, v1, v2, v3, v4, v5, v6, v7, v8, v9, v10, v11, v12, v13, v14, v15, v16, v17, v18, v19, v20, v21, v22, old22⟩ := hJ
        have d0 := hd.out 0 (by kernel_rfl); have d1 := hd.out 1 (by kernel_rfl); have d2 := hd.out 2 (by kernel_rfl); have d3 := hd.out 3 (by kernel_rfl); have d4 := hd.out 4 (by kernel_rfl); have d5 := hd.out 5 (by kernel_rfl); have d6 := hd.out 6 (by kernel_rfl); have d7 := hd.out 7 (by kernel_rfl); have d8 := hd.out 8 (by kernel_rfl); have d9 := hd.out 9 (by kernel_rfl); have d10 := hd.out 10 (by kernel_rfl); have d11 := hd.out 11 (by kernel_rfl); have d12 := hd.out 12 (by kernel_rfl); have d13 := hd.out 13 (by kernel_rfl); have d14 := hd.out 14 (by kernel_rfl); have d15 := hd.out 15 (by kernel_rfl); have d16 := hd.out 16 (by kernel_rfl); have d17 := hd.out 17 (by kernel_rfl); have d18 := hd.out 18 (by kernel_rfl); have d19 := hd.out 19 (by kernel_rfl); have d20 := hd.out 20 (by kernel_rfl); have d21 := hd.out 21 (by kernel_rfl); have r0 := v0 d0; have r1 := v1 d1; have r2 := v2 d2; have r3 := v3 d3; have r4 := v4 d4; have r5 := v5 d5; have r6 := v6 d6; have r7 := v7 d7; have r8 := v8 d8; have r9 := v9 d9; have r10 := v10 d10; have r11 := v11 d11; have r12 := v12 d12; have r13 := v13 d13; have r14 := v14 d14; have r15 := v15 d15; have r16 := v16 d16; have r17 := v17 d17; have r18 := v18 d18; have r19 := v19 d19; have r20 := v20 d20; have r21 := v21 d21
        obtain ⟨x_18, c_18, r18⟩ := r18
        obtain ⟨x_20, c_20, r20⟩ := r20
        obtain ⟨x_21, c_21, r21⟩ := r21
        go_simp
        refine hK.out _ ?_ _ ?_ ?_; rotate_left 2
        · (try simp only [r0, r1, r2, r3, r4, r5, r6, r7, r8, r9, r10, r11, r12, r13, r14, r15, r16, r17, r18, r19, r20, r21]); rfl
        exact ⟨hH, hE3, hSVx, v0, v1, v2, v3, v4, v5, v6, v7, v8, v9, v10, v11, v12, v13, v14, v15, v16, v17, v18, v19, v20, v21, fun _ => (by first | rfl | exact r21.symm), Lib.hid fun h => absurd (show true = false from h) (by decide)⟩
      exact AllSteps.nil
    case hEc =>
     intro b t wc hJ hall
     obtain ⟨hHc, hE3c, hSVxc, v0, v1, v2, v3, v4, v5, v6, v7, v8, v9, v10, v11, v12, v13, v14, v15, v16, v17, v18, v19, v20, v21, v22, old22⟩ := hJ
     clear old22
     have a0 := hall 0 (by decide); have a1 := hall 1 (by decide); have a2 := hall 2 (by decide); have a3 := hall 3 (by decide); have a4 := hall 4 (by decide); have a5 := hall 5 (by decide); have a6 := hall 6 (by decide); have a7 := hall 7 (by decide); have a8 := hall 8 (by decide); have a9 := hall 9 (by decide); have a10 := hall 10 (by decide); have a11 := hall 11 (by decide); have a12 := hall 12 (by decide); have a13 := hall 13 (by decide); have a14 := hall 14 (by decide); have a15 := hall 15 (by decide); have a16 := hall 16 (by decide); have a17 := hall 17 (by decide); have a18 := hall 18 (by decide); have a19 := hall 19 (by decide); have a20 := hall 20 (by decide); have a21 := hall 21 (by decide); have a22 := hall 22 (by decide)
     (try simp only [a0, a1, a2, a3, a4, a5, a6, a7, a8, a9, a10, a11, a12, a13, a14, a15, a16, a17, a18, a19, a20, a21, a22, cond_true] at hHc)
     (try simp only [a0, a1, a2, a3, a4, a5, a6, a7, a8, a9, a10, a11, a12, a13, a14, a15, a16, a17, a18, a19, a20, a21, a22, cond_true] at hE3c)
     (try simp only [a0, a1, a2, a3, a4, a5, a6, a7, a8, a9, a10, a11, a12, a13, a14, a15, a16, a17, a18, a19, a20, a21, a22, cond_true] at hSVxc)
     replace v0 := v0 a0; replace v1 := v1 a1; replace v2 := v2 a2; replace v3 := v3 a3; replace v4 := v4 a4; replace v5 := v5 a5; replace v6 := v6 a6; replace v7 := v7 a7; replace v8 := v8 a8; replace v9 := v9 a9; replace v10 := v10 a10; replace v11 := v11 a11; replace v12 := v12 a12; replace v13 := v13 a13; replace v14 := v14 a14; replace v15 := v15 a15; replace v16 := v16 a16; replace v17 := v17 a17; replace v18 := v18 a18; replace v19 := v19 a19; replace v20 := v20 a20; replace v21 := v21 a21; replace v22 := v22 a22
     clear hall a0 a1 a2 a3 a4 a5 a6 a7 a8 a9 a10 a11 a12 a13 a14 a15 a16 a17 a18 a19 a20 a21 a22
     generalize t 22 = x22 at hHc v22 ⊢; generalize t 21 = x21 at hHc v21 v22 hSVxc ⊢; generalize t 20 = x20 at hHc v20 ⊢; generalize t 19 = x19 at hHc v19 ⊢; generalize t 18 = x18 at hHc v18 ⊢; generalize t 17 = x17 at hHc v17 ⊢; generalize t 16 = x16 at hHc v16 ⊢; generalize t 15 = x15 at hHc v15 ⊢; generalize t 14 = x14 at hHc v14 ⊢; generalize t 13 = x13 at hHc v13 ⊢; generalize t 12 = x12 at hHc v12 ⊢; generalize t 11 = x11 at hHc v11 ⊢; generalize t 10 = x10 at hHc v10 ⊢; generalize t 9 = x9 at hHc v9 ⊢; generalize t 8 = x8 at hHc v8 ⊢; generalize t 7 = x7 at hHc v7 ⊢; generalize t 6 = x6 at hHc v6 ⊢; generalize t 5 = x5 at hHc v5 ⊢; generalize t 4 = x4 at hHc v4 ⊢; generalize t 3 = x3 at hHc v3 ⊢; generalize t 2 = x2 at hHc v2 ⊢; generalize t 1 = x1 at hHc v1 ⊢; generalize t 0 = x0 at hHc v0 ⊢; subst v0; subst v1; subst v2; subst v3; subst v4; subst v5; subst v6; subst v7; subst v8; subst v9; subst v10; subst v11; subst v12; subst v13; subst v14; subst v15; subst v16; subst v17
     obtain ⟨xc18, cc18, rfl⟩ := v18
     subst v19
     obtain ⟨xc20, cc20, rfl⟩ := v20
     obtain ⟨xc21, cc21, rfl⟩ := v21
     subst v22
     clear b
     replace hH := hHc; clear hHc
     replace hH : HeldX (some s) w1 wc [aI (.slice xc21 (j + 1) cc21) (CJ ++ [PJ]), aI (.slice xc18 JN.length cc18) JN, aI (.slice xc20 1 cc20) [PJ]] := hH
     have hXc := hH.sub (L' := [aI (.slice xc21 (j + 1) cc21) (CJ ++ [PJ])]) (.cons_cons _ (.cons _ (.cons _ .slnil)))
     clear hH hE3c
     go_wp2_with fail
     refine (contract_anyV (arrL_length _ _) _ hSVxc HLL2.out HRK2.out pi pj (by rw [List.length_map, HMJ.out]; exact hil) (by rw [List.length_map, HMJ.out]; exact hjl) HNX.out.1 HNX.out.2).mono ?_; rintro e5 w5 ⟨_, _, u5, rfl, _, _, g5, hS5⟩
     have hX5 := hXc.turnX hsw1 g5
     have hE5 : Ext w w5 := hE1.out.only hX5.grown (fun q hq => by cases hq; exact hsw)
     have HS5 := Lib.hid hS5; have HX5 := Lib.hid hX5; have HE5 := Lib.hid hE5
     clear hS5 hX5 hE5 g5 hXc hSVxc
     go_wp2_with fail
     go_roundw
     case rel => exact ⟨j + 1, drop2 cs pi pj ++ [((ts.length : Int) + j, u5)], _, _, by omega, by go_num, HA2, Lib.hid (by unfold numStep; show _ = drop2 ns (findL ns ea).toNat (findL ns eb).toNat ++ [(ts.length : Int) + j]; rw [← HC.out, HPI.out, HPJ.out, List.map_append, drop2_map]; rfl), by rw [tenStep_lab]; unfold labStep; show OrdV _ s _ _ _ _ (drop2 _ (findL ns ea).toNat (findL ns eb).toNat ++ [resL op _ (findL ns ea).toNat (findL ns eb).toNat]) _; rw [← HC.out, HPI.out, HPJ.out, show (ts.length : Int) + ((j + 1 : Nat) : Int) = (ts.length : Int) + j + 1 by push_cast; omega]; exact HS5.out, by rw [HC1.out]; exact HX5.out, HE5.out⟩
     case measure => simp [RowKit.intOf]; omega
  ·
   have hje : j = os.length := by omega
   subst hje
   have HX := Lib.hid hX; have HE := Lib.hid hE
   have hwz := hE1.out.size
   clear hX hE hSV
   go_wp2
   go_ret
   exact ⟨_, rfl, by have h := HX.out.own (k := 0) rfl; rw [← HCJ.out, HM.out] at h; exact h.mono hwz, HE.out⟩
end Go.Proofs.Ytpegckmagiaggaa
