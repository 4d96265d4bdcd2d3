/- PartialNetwork of the program, of a valid order. -/
import Derived.Test.YtlgjddgajdjllaaGreatHG17
set_option linter.unusedSimpArgs false
set_option linter.unusedVariables false
namespace Go.Proofs.YtlgjddgajdjllaaGreat
open Go.RowKit
set_option maxRecDepth 100000 in
set_option maxHeartbeats 4000000 in
theorem partialNetwork_any {k p n : Int} (hr : ringOk k p n = true) {dm : Int → Int} {U : List Int} {ts : List (NT k p n)} {op : List Int} (hN : IsN k p n dm U ts op) (tv ov : Value) (w : World) (hT : TensS w tv (ts.map (tenOf dm))) (hO : IntS w ov op) {os : List (Int × Int)} (hok : okO (numL ts.length) (ts.length : Int) os) (hol : os.length = ts.length - 1) (vo : Value) (hVo : StepsS w vo os) (kk : Nat) (hkk : kk ≤ os.length) :
 Calls Tryz.prog 30 #[.agg #[.int .i64 k, .int .i64 p, .int .i64 n, tv, ov], vo, .int .i64 (kk : Int)] w fun e w' => ∃ tv' ov' ns tj, e = .returned (.tuple #[.agg #[.int .i64 k, .int .i64 p, .int .i64 n, tv', ov'], .bool true]) ∧
  AtStep hr dm U op (numL ts.length) (ts.length : Int) ts os kk ns tj ∧ TensS w' tv' (tj.map (tenOf dm)) ∧ IntS w' ov' op ∧ Ext w w' := by
 obtain ⟨m, aV, cV, aO, cO, rfl, rfl, hcT1, hcT2, hcO1, hcO2, hm12, hop12, HM, HD3, hTl⟩ := net_in hN hT hO
 have hT0 := hT; have hO0 := hO; have HR := Lib.hid hr; have HN := Lib.hid hN; clear hN; try rw [HM.out]
 have hm2 := HM
 obtain ⟨aQ, cQ, rfl, hcq1, hcq2⟩ := hVo.val
 have HOK := Lib.hid hok; have HOL := Lib.hid hol
 have hol2 : os.length ≤ m := by rw [← hm2.out]; omega
 clear hok hol
 go_enter Tryz.func30, Tryz.ntmps30
 go_upto_region 1 with fail
 have hH : Held w w [] := Held.new (Ext.refl w) 0
 obtain ⟨hB, hsz⟩ := hH.laid #[.int .i64 k, .int .i64 p, .int .i64 n, .slice aV m cV, .slice aO op.length cO] 29
 generalize w.alloc (.cells #[.int .i64 k, .int .i64 p, .int .i64 n, .slice aV m cV, .slice aO op.length cO] 29) = wn1 at hB hsz ⊢
 replace hH : Held w wn1 [nB w.heap.size k p n aV m cV aO op.length cO] := hB
 have HSZwn1 := Lib.hid (show wn1.heap.size = w.heap.size + 1 by rw [hsz]); clear hB hsz
 have hk0 : ¬ ((kk : Int) < 0) := by omega
 have hk1 : ¬ ((os.length : Int) < (kk : Int)) := by omega
 obtain ⟨hB, hsz⟩ := hH.laid #[.int .i64 0, .int .i64 0, .int .i64 0, .slice none 0 0, .slice none 0 0] 29
 generalize wn1.alloc (.cells #[.int .i64 0, .int .i64 0, .int .i64 0, .slice none 0 0, .slice none 0 0] 29) = wn2 at hB hsz ⊢
 replace hH : Held w wn2 [nB w.heap.size k p n aV m cV aO op.length cO, aB (w.heap.size + 1) 29 [.int .i64 0, .int .i64 0, .int .i64 0, .slice none 0 0, .slice none 0 0]] := by rw [HSZwn1.out] at hB; exact hB
 have HSZwn2 := Lib.hid (show wn2.heap.size = w.heap.size + 1 + 1 by rw [hsz, HSZwn1.out]); clear hB hsz
 obtain ⟨q0_0, q0_1, q0_2, q0_3, q0_4, l0_⟩ := hH.c5 0 rfl; obtain ⟨q1_0, q1_1, q1_2, q1_3, q1_4, l1_⟩ := hH.c5 1 rfl
 go_wp2_with fail
 clear q0_0 q0_1 q0_2 q0_3 q0_4 l0_ q1_0 q1_1 q1_2 q1_3 q1_4 l1_
 refine (orderOk_any HR.out HN.out _ _ _ (hT0.ext hH.ext) (hO0.ext hH.ext) HOK.out HOL.out _ (hVo.ext hH.ext)).mono ?_; rintro e0 w0 ⟨rfl, h0⟩
 replace hH := hH.grow h0; clear h0
 obtain ⟨q0_0, q0_1, q0_2, q0_3, q0_4, l0_⟩ := hH.c5 0 rfl; obtain ⟨q1_0, q1_1, q1_2, q1_3, q1_4, l1_⟩ := hH.c5 1 rfl
 go_wp2_with fail
 clear q0_0 q0_1 q0_2 q0_3 q0_4 l0_ q1_0 q1_1 q1_2 q1_3 q1_4 l1_
 refine (startState_any HR.out HN.out _ _ _ (hT0.ext hH.ext) (hO0.ext hH.ext)).mono ?_; rintro e1 w1 ⟨s, cs0, rfl, h1, hsw1, hS0, hc0⟩
 have hbn := hH.bl 0 rfl
 have hbr := hH.bl 1 rfl
 have hsn : w.heap.size ≠ s := by omega
 have hsr : w.heap.size + 1 ≠ s := by omega
 have hsw : w.heap.size ≤ s := Nat.le_trans hH.ext.size hsw1
 have HC0 := Lib.hid hc0
 replace hH := hH.grow h1
 clear h1 hsw1 hc0 hbn hbr
 obtain ⟨q0_0, q0_1, q0_2, q0_3, q0_4, l0_⟩ := hH.c5 0 rfl; obtain ⟨q1_0, q1_1, q1_2, q1_3, q1_4, l1_⟩ := hH.c5 1 rfl
 go_wp2_with fail
 clear q0_0 q0_1 q0_2 q0_3 q0_4 l0_ q1_0 q1_1 q1_2 q1_3 q1_4 l1_
 refine (copyNetwork_any HR.out HN.out _ _ _ (hT0.ext hH.ext) (hO0.ext hH.ext)).mono ?_; rintro e2 w2 ⟨tv2, ov2, ct0, rfl, hJ⟩
 have hTs : OwnTs w2 tv2 ct0 (ts.map (tenOf dm)) := hJ.get (k := 0) rfl
 have hTRs := hTs.tensR (hJ.not_fp (k := 0) rfl hS0.lt)
 have hTRr := hTs.tensR (hJ.not_fp (k := 0) rfl (hH.blk (k := 1) rfl).lt)
 have hVr : 0 < op.length → ov2.ownBlock ≠ some (w.heap.size + 1) := fun _ e => hJ.not_fp (k := 1) rfl (hH.blk (k := 1) rfl).lt (by simp [aI]; exact e)
 have hTRc := TensR.new hTs.len (ownsRow_row hTs.row) (fun i c t hc ht => ⟨(hTs.elem i c t hc ht).1.ints, (hTs.elem i c t hc ht).2.1.ints, (hTs.elem i c t hc ht).2.2.ints⟩) (Nat.le_refl w2.heap.size)
 have hOA := OrdA.new (hS0.ext hJ.ext) (Nat.le_refl w2.heap.size)
 have hVO := hJ.ints (k := 1) rfl
 have hVs : 0 < op.length → ov2.ownBlock ≠ some s := fun _ e => hJ.not_fp (k := 1) rfl hS0.lt (by simp [aI]; exact e)
 have hVc : 0 < op.length → ov2.ownBlock ≠ some w2.heap.size := fun hp e => by have := row_block_lt hVO.row (by rwa [ints_length]) e; omega
 have hsc : s ≠ w2.heap.size := by have := hS0.lt; have := hJ.ext.size; omega
 have hBn := (hH.blk (k := 0) rfl).ext hJ.ext
 have hBr := (hH.blk (k := 1) rfl).ext hJ.ext
 have hE2 := hH.ext.trans hJ.ext
 have hcw : w.heap.size ≤ w2.heap.size := hE2.size
 have hcn : w.heap.size ≠ w2.heap.size := by have := hBn.lt; omega
 have hcr : w.heap.size + 1 ≠ w2.heap.size := by have := hBr.lt; omega
 clear hTs hJ hH hS0
 obtain ⟨aK, cK, rfl, hct1, hct2⟩ := hTRs.toS.val
 obtain ⟨aP, cP, rfl, hcp1, hcp2⟩ := hVO.val
 have hH : Held w2 w2 [] := Held.new (Ext.refl w2) 0
 rw [hTl.out] at hTRs hTRc hTRr hct1 ⊢
 go_upto_region 5 with fail
 obtain ⟨hB, hsz⟩ := hH.laid #[.int .i64 k, .int .i64 p, .int .i64 n, .slice aK m cK, .slice aP op.length cP] 29
 generalize w2.alloc (.cells #[.int .i64 k, .int .i64 p, .int .i64 n, .slice aK m cK, .slice aP op.length cP] 29) = wn3 at hB hsz ⊢
 replace hH : Held w2 wn3 [nB w2.heap.size k p n aK m cK aP op.length cP] := hB
 have HSZwn3 := Lib.hid (show wn3.heap.size = w2.heap.size + 1 by rw [hsz]); clear hB hsz
 obtain ⟨q0_0, q0_1, q0_2, q0_3, q0_4, l0_⟩ := hH.c5 0 rfl
 go_wp2_with fail
 clear q0_0 q0_1 q0_2 q0_3 q0_4 l0_
 have hBc := hH.blk (k := 0) rfl
 have hOA1 := hOA.ext hH.ext; have hT1 := hTRs.ext hH.ext; have hT2 := hTRc.ext hH.ext; have hT3 := hTRr.ext hH.ext; have hV1 := hVO.ext hH.ext; have hN1 := hBn.ext hH.ext; have hR1 := hBr.ext hH.ext; have hE1 := hE2.trans hH.ext
 clear hOA hTRs hTRc hTRr hVO hBn hBr hE2 hH
 go_loopw [42] (fun i wr => ∃ (j : Nat) (cs : List (Int × Value)) (ns : List Int) (tj : List (NT k p n)) (tvv : Value) (ct : List (Value × Value × Value)), j ≤ kk ∧ i = .int .i64 (j : Int) ∧ Hid (AtStep hr dm U op (numL ts.length) (ts.length : Int) ts os j ns tj) ∧ Hid (cs.map (·.1) = ns) ∧ OrdA wr s w2.heap.size (arrL dm (occ ts)) op cs (tj.map (·.1)) ((ts.length : Int) + j) ∧ TensR wr s tvv ct (tj.map (tenOf dm)) ∧ TensR wr w2.heap.size tvv ct (tj.map (tenOf dm)) ∧ TensR wr (w.heap.size + 1) tvv ct (tj.map (tenOf dm)) ∧ Blk wr w2.heap.size 29 [.int .i64 k, .int .i64 p, .int .i64 n, tvv, .slice aP op.length cP] ∧ IntS wr (.slice aP op.length cP) op ∧ Blk wr w.heap.size 29 [.int .i64 k, .int .i64 p, .int .i64 n, .slice aV m cV, .slice aO op.length cO] ∧ Blk wr (w.heap.size + 1) 29 [.int .i64 0, .int .i64 0, .int .i64 0, .slice none 0 0, .slice none 0 0] ∧ Ext w wr) (fun i wr => kk - (RowKit.intOf i).toNat)
 case atStart => exact ⟨0, cs0, numL ts.length, ts, _, ct0, Nat.zero_le _, rfl, Lib.hid (AtStep.mk' HOK.out (numL_len _) HN.out 0 (Nat.zero_le _)), HC0, by rw [show (ts.length : Int) + ((0 : Nat) : Int) = (ts.length : Int) by simp]; exact hOA1, hT1, hT2, hT3, hBc, hV1, hN1, hR1, hE1⟩
 clear hOA1 hT1 hT2 hT3 hBc hV1 hN1 hR1 hE1 HC0
 obtain ⟨j, cs, ns, tj, tvv, ct, hj, rfl, HA, HC, hOA, hTs, hTc, hTr, hBc, hVO, hBn, hBr, hE⟩ := hrel
 by_cases hlt : j < kk
 ·
  obtain ⟨w3, rfl⟩ : ∃ q, q = wr := ⟨wr, rfl⟩
  obtain ⟨bS, oS, ea, eb, haq, hos, hs0, hs1⟩ := hVo.get (show j < os.length by omega)
  subst haq
  replace hs0 := hE.cell hs0; replace hs1 := hE.cell hs1
  obtain ⟨hA2, hma, hmb, hab⟩ := HA.out.next HOK.out (numL_len _) HN.out hos
  simp only at hma hmb hab
  rw [← HC.out] at hma hmb
  have hleft := HA.out.left
  rw [HM.out] at hleft
  have hll : (tj.map (·.1)).length ≤ 1000 := by rw [List.length_map]; omega
  have hrk : ∀ l ∈ tj.map (·.1), l.length ≤ 500 := fun l hl => Nat.le_trans (HA.out.rank l hl) (by omega)
  have hnx0 : (0 : Int) ≤ (ts.length : Int) + j := by omega
  have hnx1 : (ts.length : Int) + j ≤ 2000 := by rw [HM.out]; omega
  have HRK2 := Lib.hid hrk; have HA2 := Lib.hid hA2; have HOS2 := Lib.hid hos; have HMA := Lib.hid hma; have HMB := Lib.hid hmb; have HNX := Lib.hid (And.intro hnx0 hnx1); have HLL2 := Lib.hid hll
  clear hrk hA2 hos hma hmb hnx0 hnx1 hleft hll
  obtain ⟨pi, hpi, hpi2⟩ := find_nat HMA.out
  obtain ⟨pj, hpj, hpj2⟩ := find_nat HMB.out
  have hcl : (cs.map (·.1)).length = tj.length := by rw [HC.out]; exact HA.out.len
  have hil : pi < tj.length := by have := (List.getElem?_eq_some_iff.1 hpi2).1; omega
  have hjl : pj < tj.length := by have := (List.getElem?_eq_some_iff.1 hpj2).1; omega
  have HPI := Lib.hid hpi; have HPJ := Lib.hid hpj
  have HPL := Lib.hid (fun (wx : World) (hS : OrdS wx s (arrL dm (occ ts)) op cs (tj.map (·.1)) ((ts.length : Int) + j)) (x : Int) => place_any (arrL_length _ _) wx hS HLL2.out x)
  have HRL := Lib.hid (fun (wx : World) (hS : OrdS wx s (arrL dm (occ ts)) op cs (tj.map (·.1)) ((ts.length : Int) + j)) => resultLabels_any (arrL_length _ _) wx hS HLL2.out HRK2.out pi pj (by rw [List.length_map]; exact hil) (by rw [List.length_map]; exact hjl))
  obtain ⟨aC, cC, rfl, _, _⟩ := hTs.toS.val
  rw [List.length_map] at hTs hTc hTr hBc
  obtain ⟨mj, hmj⟩ : ∃ q, tj.length = q := ⟨_, rfl⟩
  rw [hmj] at hTs hTc hTr hBc hil hjl
  have HMJ := Lib.hid hmj
  obtain ⟨bC, oC, ca, ta, haC, hca, hta, hx0, hx1, hx2, hyL, hyD, hyX⟩ := hTs.get (i := pi) (by rw [List.length_map, HMJ.out]; exact hil)
  subst haC
  obtain ⟨_, _, cb, tb, haC, hcb, htb, hz0, hz1, hz2, hwL, hwD, hwX⟩ := hTs.get (i := pj) (by rw [List.length_map, HMJ.out]; exact hjl)
  cases haC
  clear hpi hpj hpi2 hpj2 hcl hmj
  have hg0 := hBn.cell (j := 0) rfl; have hg1 := hBn.cell (j := 1) rfl; have hg2 := hBn.cell (j := 2) rfl
  have hg3 := hBc.cell (j := 3) rfl
  have hH : Held w3 w3 [] := Held.new (Ext.refl w3) 0
  have c_hs0 := hH.ext.cell hs0; have c_hs1 := hH.ext.cell hs1
  go_upto_region 8 with fail
  clear c_hs0 c_hs1
  obtain ⟨hB, hsz⟩ := hH.laid #[.int .i64 ea, .int .i64 eb] 66
  generalize w3.alloc (.cells #[.int .i64 ea, .int .i64 eb] 66) = wn4 at hB hsz ⊢
  replace hH : Held w3 wn4 [aB (w3.heap.size) 66 [.int .i64 ea, .int .i64 eb]] := hB
  have HSZwn4 := Lib.hid (show wn4.heap.size = w3.heap.size + 1 by rw [hsz]); clear hB hsz
  obtain ⟨wz, rfl⟩ : ∃ q, q = wn4 := ⟨wn4, rfl⟩
  refine wp_region_steps ?Fa (fun b t wx => Held w3 wx [aB (w3.heap.size) 66 [.int .i64 ea, .int .i64 eb]] ∧ (b 0 = true → t 0 = .pointer (some ⟨s, 0, none⟩)) ∧ (b 1 = true → t 1 = .pointer (some ⟨w3.heap.size, 0, none⟩)) ∧ (b 2 = true → t 2 = .int .i64 ea) ∧ (b 3 = true → t 3 = .int .i64 (pi : Int)) ∧ (b 4 = true → t 4 = .pointer (some ⟨s, 0, none⟩)) ∧ (b 5 = true → t 5 = .pointer (some ⟨w3.heap.size, 1, none⟩)) ∧ (b 6 = true → t 6 = .int .i64 eb) ∧ (b 7 = true → t 7 = .int .i64 (pj : Int)) ∧ (b 8 = true → t 8 = t 3) ∧ (b 9 = true → t 9 = t 7)) ?hFa (by kernel_rfl) (by kernel_rfl) ?hJa ?hSa ?hEa
  (case hFa => intro t; simp only [putAll, Act.put, List.setIfInBounds_toArray, List.set_cons_zero, List.set_cons_succ, Nat.reduceAdd, Nat.zero_add]; exact rfl)
  case hJa => exact ⟨hH.grow ((Ext.refl _).drew), nof, nof, nof, nof, nof, nof, nof, nof, nof, nof⟩
  case hSa => as_aux_lemma =>
   refine st 1 rfl (fun b t wx hJ hb hd hcl Kc hK => ?_) ?_
   · obtain ⟨hH, hV⟩ := hJ
     go_simp
     apply sk hK
     · rfl
     exact ⟨hH, rp (fun _ => rfl) hV⟩
   refine st 2 rfl (fun b t wx hJ hb hd hcl Kc hK => ?_) ?_
   · obtain ⟨hH, hV⟩ := hJ
     go_simp
     apply sk hK
     · rfl
     exact ⟨hH, jA (rp (fun _ => rfl)) hV⟩
   refine st 3 rfl (fun b t wx hJ hb hd hcl Kc hK => ?_) ?_
   · obtain ⟨hH, hV⟩ := hJ
     have d1 := so hd 1; have r1 := hV.2.1 d1; have q0_0 := hH.cl 0 0 rfl rfl
     go_simp
     apply sk hK
     · (try simp only [r1]); rfl
     exact ⟨hH, jB (rp (fun _ => rfl)) hV⟩
   refine st 4 rfl (fun b t wx hJ hb hd hcl Kc hK => ?_) ?_
   · obtain ⟨hH, v0, v1, v2, v3, v4, v5, v6, v7, v8, v9⟩ := hJ
     have d0 := so hd 0; have d2 := so hd 2
     have n8 : b 8 = false := nf hb fun h => sc hcl 8 3 (h)
     have r0 := v0 d0; have r2 := v2 d2
     go_simp
     go_at_call 77
     refine (HPL.out _ (hOA.toS.ext hH.ext) ea).mono ?_; rintro e3 w3 ⟨rfl, h3⟩
     rw [HPI.out]
     (try go_simp)
     apply sk hK
     · (try simp only [r0, r2]); rfl
     exact ⟨by have hX := hH.grow h3; simpa only [List.set_cons_zero, List.set_cons_succ, updB, updV, blkOf_mk, tup0_mk, partsOf3, Nat.reduceBEq, cond_true, cond_false, hb, d0, d2, n8, r0, r2] using hX, v0, v1, v2, fun _ => rfl, v4, v5, v6, v7, ab n8, v9⟩
   refine st 5 rfl (fun b t wx hJ hb hd hcl Kc hK => ?_) ?_
   · obtain ⟨hH, hV⟩ := hJ
     go_simp
     apply sk hK
     · rfl
     exact ⟨hH, jD (rp (fun _ => rfl)) hV⟩
   refine st 6 rfl (fun b t wx hJ hb hd hcl Kc hK => ?_) ?_
   · obtain ⟨hH, hV⟩ := hJ
     go_simp
     apply sk hK
     · rfl
     exact ⟨hH, jD (jA (rp (fun _ => rfl))) hV⟩
   refine st 7 rfl (fun b t wx hJ hb hd hcl Kc hK => ?_) ?_
   · obtain ⟨hH, hV⟩ := hJ
     have d5 := so hd 5; have r5 := hV.2.2.2.2.2.1 d5; have q0_1 := hH.cl 0 1 rfl rfl
     go_simp
     apply sk hK
     · (try simp only [r5]); rfl
     exact ⟨hH, jD (jB (rp (fun _ => rfl))) hV⟩
   refine st 8 rfl (fun b t wx hJ hb hd hcl Kc hK => ?_) ?_
   · obtain ⟨hH, v0, v1, v2, v3, v4, v5, v6, v7, v8, v9⟩ := hJ
     have d3 := so hd 3; have d4 := so hd 4; have d6 := so hd 6
     have n9 : b 9 = false := nf hb fun h => sc hcl 9 7 (h)
     have r3 := v3 d3; have r4 := v4 d4; have r6 := v6 d6
     go_simp
     go_at_call 77
     refine (HPL.out _ (hOA.toS.ext hH.ext) eb).mono ?_; rintro e7 w7 ⟨rfl, h7⟩
     rw [HPJ.out]
     (try go_simp)
     apply sk hK
     · (try simp only [r3, r4, r6]); rfl
     exact ⟨by have hX := hH.grow h7; simpa only [List.set_cons_zero, List.set_cons_succ, updB, updV, blkOf_mk, tup0_mk, partsOf3, Nat.reduceBEq, cond_true, cond_false, hb, d3, d4, d6, n9, r3, r4, r6] using hX, v0, v1, v2, v3, v4, v5, v6, fun _ => rfl, v8, ab n9⟩
   refine st 9 rfl (fun b t wx hJ hb hd hcl Kc hK => ?_) ?_
   · obtain ⟨hH, hV⟩ := hJ
     have d0 := so hd 0; have d1 := so hd 1; have d2 := so hd 2; have d3 := so hd 3; have d7 := so hd 7; have r0 := hV.1 d0; have r1 := hV.2.1 d1; have r2 := hV.2.2.1 d2; have r3 := hV.2.2.2.1 d3; have r7 := hV.2.2.2.2.2.2.2.1 d7
     go_simp
     apply sk hK
     · (try simp only [r0, r1, r2, r3, r7]); rfl
     exact ⟨hH, jD (jD (rp (fun _ => (by first | rfl | exact r3.symm)))) hV⟩
   refine st 10 rfl (fun b t wx hJ hb hd hcl Kc hK => ?_) ?_
   · obtain ⟨hH, hV⟩ := hJ
     have d0 := so hd 0; have d1 := so hd 1; have d2 := so hd 2; have d3 := so hd 3; have d4 := so hd 4; have d5 := so hd 5; have d6 := so hd 6; have d7 := so hd 7; have d8 := so hd 8; have r0 := hV.1 d0; have r1 := hV.2.1 d1; have r2 := hV.2.2.1 d2; have r3 := hV.2.2.2.1 d3; have r4 := hV.2.2.2.2.1 d4; have r5 := hV.2.2.2.2.2.1 d5; have r6 := hV.2.2.2.2.2.2.1 d6; have r7 := hV.2.2.2.2.2.2.2.1 d7; have r8 := hV.2.2.2.2.2.2.2.2.1 d8
     go_simp
     apply sk hK
     · (try simp only [r0, r1, r2, r3, r4, r5, r6, r7, r8]); rfl
     exact ⟨hH, jD (jD (jA (fun _ => fun _ => (by first | rfl | exact r7.symm)))) hV⟩
   exact AllSteps.nil
  intro b t wa hJ hall
  obtain ⟨hHa, v0, v1, v2, v3, v4, v5, v6, v7, v8, v9⟩ := hJ
  have a0 := hall 0 (by decide); have a1 := hall 1 (by decide); have a2 := hall 2 (by decide); have a3 := hall 3 (by decide); have a4 := hall 4 (by decide); have a5 := hall 5 (by decide); have a6 := hall 6 (by decide); have a7 := hall 7 (by decide); have a8 := hall 8 (by decide); have a9 := hall 9 (by decide)
  (try simp only [a0, a1, a2, a3, a4, a5, a6, a7, a8, a9, cond_true] at hHa)
  replace v0 := v0 a0; replace v1 := v1 a1; replace v2 := v2 a2; replace v3 := v3 a3; replace v4 := v4 a4; replace v5 := v5 a5; replace v6 := v6 a6; replace v7 := v7 a7; replace v8 := v8 a8; replace v9 := v9 a9
  clear hall a0 a1 a2 a3 a4 a5 a6 a7 a8 a9
  generalize t 9 = x9 at hHa v9 ⊢; generalize t 8 = x8 at hHa v8 ⊢; generalize t 7 = x7 at hHa v7 v9 ⊢; generalize t 6 = x6 at hHa v6 ⊢; generalize t 5 = x5 at hHa v5 ⊢; generalize t 4 = x4 at hHa v4 ⊢; generalize t 3 = x3 at hHa v3 v8 ⊢; generalize t 2 = x2 at hHa v2 ⊢; generalize t 1 = x1 at hHa v1 ⊢; generalize t 0 = x0 at hHa v0 ⊢; subst v0; subst v1; subst v2; subst v3; subst v4; subst v5; subst v6; subst v7; subst v8; subst v9
  clear b
  replace hH := hHa; clear hHa
  replace hH : Held w3 wa [aB (w3.heap.size) 66 [.int .i64 ea, .int .i64 eb]] := hH
  obtain ⟨wy, rfl⟩ : ∃ q, q = wa := ⟨wa, rfl⟩
  obtain ⟨⟨La, xa⟩, hta2, rfl⟩ : ∃ t, tj[pi]? = some t ∧ tenOf dm t = ta := by rw [List.getElem?_map] at hta; exact Option.map_eq_some_iff.1 hta
  obtain ⟨⟨Lb, xb⟩, htb2, rfl⟩ : ∃ t, tj[pj]? = some t ∧ tenOf dm t = tb := by rw [List.getElem?_map] at htb; exact Option.map_eq_some_iff.1 htb
  simp only [tenOf] at hyL hyD hyX hwL hwD hwX
  have HIA := Lib.hid (HA.out.isN.ten _ (List.mem_of_getElem? hta2)); have HIB := Lib.hid (HA.out.isN.ten _ (List.mem_of_getElem? htb2))
  have HTA := Lib.hid hta2; have HTB := Lib.hid htb2; have HCA := Lib.hid hca; have HCB := Lib.hid hcb
  clear hta htb hta2 htb2 hca hcb
  obtain ⟨RL, hRL⟩ : ∃ q, resL op (tj.map (·.1)) pi pj = q := ⟨_, rfl⟩
  rw [hRL] at HRL
  have HRLE := Lib.hid hRL; clear hRL
  have HYA : Hid (∀ wx, Ext w3 wx → TenS wx (.agg #[ca.1, ca.2.1, ca.2.2]) La (La.map dm) (flat xa)) := Lib.hid fun wx e => ⟨_, _, _, rfl, hyL.ext e, hyD.ext e, hyX.ext e⟩
  have HYB : Hid (∀ wx, Ext w3 wx → TenS wx (.agg #[cb.1, cb.2.1, cb.2.2]) Lb (Lb.map dm) (flat xb)) := Lib.hid fun wx e => ⟨_, _, _, rfl, hwL.ext e, hwD.ext e, hwX.ext e⟩
  clear hyL hyD hyX hwL hwD hwX
  have HHR := Lib.hid hr
  replace hH := hH.mores 3
  go_upto_region 9 with fail
  replace hH : Held w3 wy [aB (w3.heap.size) 66 [.int .i64 ea, .int .i64 eb], emp, emp, emp] := hH
  refine wp_region_steps ?Fb (fun b t wx => Held w3 wx [aB (w3.heap.size) 66 [.int .i64 ea, .int .i64 eb], (bif b 15 then aI (t 15) RL else emp), (bif b 16 then aT (tup0 (t 16)) (keepL (joinL La Lb) RL) ((keepL (joinL La Lb) RL).map dm) (flat (contrXs hr dm La Lb RL xa xb)) else emp), (bif b 21 then aB (blkOf (t 20)) 35 (partsOf (t 18)) else (bif b 20 then aB (blkOf (t 20)) 35 [.slice none 0 0, .slice none 0 0, .slice none 0 0] else emp))] ∧ (b 0 = true → t 0 = .pointer (some ⟨w.heap.size, 0, none⟩)) ∧ (b 1 = true → t 1 = .agg #[.int .i64 k, .int .i64 p, .int .i64 n]) ∧ (b 2 = true → t 2 = .pointer (some ⟨w2.heap.size, 3, none⟩)) ∧ (b 3 = true → t 3 = .slice (some ⟨bC, oC, none⟩) mj cC) ∧ (b 4 = true → t 4 = .int .i64 (pi : Int)) ∧ (b 5 = true → t 5 = .pointer (some ⟨bC, oC + pi * 3, none⟩)) ∧ (b 6 = true → t 6 = .agg #[ca.1, ca.2.1, ca.2.2]) ∧ (b 7 = true → t 7 = .pointer (some ⟨w2.heap.size, 3, none⟩)) ∧ (b 8 = true → t 8 = .slice (some ⟨bC, oC, none⟩) mj cC) ∧ (b 9 = true → t 9 = .int .i64 (pj : Int)) ∧ (b 10 = true → t 10 = .pointer (some ⟨bC, oC + pj * 3, none⟩)) ∧ (b 11 = true → t 11 = .agg #[cb.1, cb.2.1, cb.2.2]) ∧ (b 12 = true → t 12 = .pointer (some ⟨s, 0, none⟩)) ∧ (b 13 = true → t 13 = .int .i64 (pi : Int)) ∧ (b 14 = true → t 14 = .int .i64 (pj : Int)) ∧ (b 15 = true → ∃ x c, t 15 = .slice x RL.length c) ∧ (b 16 = true → ∃ p1 n1 c1 p2 n2 c2 p3 n3 c3, t 16 = .tuple #[.agg #[.slice p1 n1 c1, .slice p2 n2 c2, .slice p3 n3 c3], .bool true]) ∧ (b 17 = true → t 17 = t 16) ∧ (b 18 = true → t 18 = tup0 (t 16)) ∧ (b 19 = true → t 19 = .bool true) ∧ (b 20 = true → ∃ q, t 20 = .pointer (some ⟨q, 0, none⟩)) ∧ (b 22 = true → t 22 = .bool true)) ?hFb (by kernel_rfl) (by kernel_rfl) ?hJb ?hSb ?hEb
  (case hFb => intro t; simp only [putAll, Act.put, List.setIfInBounds_toArray, List.set_cons_zero, List.set_cons_succ, Nat.reduceAdd, Nat.zero_add]; exact rfl)
  case hJb => exact ⟨hH.grow ((Ext.refl _).drew), nof, nof, nof, nof, nof, nof, nof, nof, nof, nof, nof, nof, nof, nof, nof, nof, nof, nof, nof, nof, nof, nof⟩
  case hSb => as_aux_lemma =>
   refine st 1 rfl (fun b t wx hJ hb hd hcl Kc hK => ?_) ?_
   · obtain ⟨hH, hV⟩ := hJ
     have c_hx0 := hH.ext.cell hx0; have c_hx1 := hH.ext.cell hx1; have c_hx2 := hH.ext.cell hx2; have c_hz0 := hH.ext.cell hz0; have c_hz1 := hH.ext.cell hz1; have c_hz2 := hH.ext.cell hz2; have c_hg0 := hH.ext.cell hg0; have c_hg1 := hH.ext.cell hg1; have c_hg2 := hH.ext.cell hg2; have c_hg3 := hH.ext.cell hg3
     go_simp
     apply sk hK
     · rfl
     exact ⟨hH, rp (fun _ => rfl) hV⟩
   refine st 2 rfl (fun b t wx hJ hb hd hcl Kc hK => ?_) ?_
   · obtain ⟨hH, hV⟩ := hJ
     have d0 := so hd 0; have r0 := hV.1 d0; have c_hx0 := hH.ext.cell hx0; have c_hx1 := hH.ext.cell hx1; have c_hx2 := hH.ext.cell hx2; have c_hz0 := hH.ext.cell hz0; have c_hz1 := hH.ext.cell hz1; have c_hz2 := hH.ext.cell hz2; have c_hg0 := hH.ext.cell hg0; have c_hg1 := hH.ext.cell hg1; have c_hg2 := hH.ext.cell hg2; have c_hg3 := hH.ext.cell hg3
     go_simp
     apply sk hK
     · (try simp only [r0]); rfl
     exact ⟨hH, jA (rp (fun _ => rfl)) hV⟩
   refine st 3 rfl (fun b t wx hJ hb hd hcl Kc hK => ?_) ?_
   · obtain ⟨hH, hV⟩ := hJ
     have c_hx0 := hH.ext.cell hx0; have c_hx1 := hH.ext.cell hx1; have c_hx2 := hH.ext.cell hx2; have c_hz0 := hH.ext.cell hz0; have c_hz1 := hH.ext.cell hz1; have c_hz2 := hH.ext.cell hz2; have c_hg0 := hH.ext.cell hg0; have c_hg1 := hH.ext.cell hg1; have c_hg2 := hH.ext.cell hg2; have c_hg3 := hH.ext.cell hg3
     go_simp
     apply sk hK
     · rfl
     exact ⟨hH, jB (rp (fun _ => rfl)) hV⟩
   refine st 4 rfl (fun b t wx hJ hb hd hcl Kc hK => ?_) ?_
   · obtain ⟨hH, hV⟩ := hJ
     have d2 := so hd 2; have r2 := hV.2.2.1 d2; have c_hx0 := hH.ext.cell hx0; have c_hx1 := hH.ext.cell hx1; have c_hx2 := hH.ext.cell hx2; have c_hz0 := hH.ext.cell hz0; have c_hz1 := hH.ext.cell hz1; have c_hz2 := hH.ext.cell hz2; have c_hg0 := hH.ext.cell hg0; have c_hg1 := hH.ext.cell hg1; have c_hg2 := hH.ext.cell hg2; have c_hg3 := hH.ext.cell hg3
     go_simp
     apply sk hK
     · (try simp only [r2]); rfl
     exact ⟨hH, jB (jA (rp (fun _ => rfl))) hV⟩
   refine st 5 rfl (fun b t wx hJ hb hd hcl Kc hK => ?_) ?_
   · obtain ⟨hH, hV⟩ := hJ
     have c_hx0 := hH.ext.cell hx0; have c_hx1 := hH.ext.cell hx1; have c_hx2 := hH.ext.cell hx2; have c_hz0 := hH.ext.cell hz0; have c_hz1 := hH.ext.cell hz1; have c_hz2 := hH.ext.cell hz2; have c_hg0 := hH.ext.cell hg0; have c_hg1 := hH.ext.cell hg1; have c_hg2 := hH.ext.cell hg2; have c_hg3 := hH.ext.cell hg3
     go_simp
     apply sk hK
     · rfl
     exact ⟨hH, jD (rp (fun _ => rfl)) hV⟩
   refine st 6 rfl (fun b t wx hJ hb hd hcl Kc hK => ?_) ?_
   · obtain ⟨hH, hV⟩ := hJ
     have d3 := so hd 3; have d4 := so hd 4; have r3 := hV.2.2.2.1 d3; have r4 := hV.2.2.2.2.1 d4; have c_hx0 := hH.ext.cell hx0; have c_hx1 := hH.ext.cell hx1; have c_hx2 := hH.ext.cell hx2; have c_hz0 := hH.ext.cell hz0; have c_hz1 := hH.ext.cell hz1; have c_hz2 := hH.ext.cell hz2; have c_hg0 := hH.ext.cell hg0; have c_hg1 := hH.ext.cell hg1; have c_hg2 := hH.ext.cell hg2; have c_hg3 := hH.ext.cell hg3
     go_simp
     apply sk hK
     · (try simp only [r3, r4]); rfl
     exact ⟨hH, jD (jA (rp (fun _ => rfl))) hV⟩
   refine st 7 rfl (fun b t wx hJ hb hd hcl Kc hK => ?_) ?_
   · obtain ⟨hH, hV⟩ := hJ
     have d5 := so hd 5; have r5 := hV.2.2.2.2.2.1 d5; have c_hx0 := hH.ext.cell hx0; have c_hx1 := hH.ext.cell hx1; have c_hx2 := hH.ext.cell hx2; have c_hz0 := hH.ext.cell hz0; have c_hz1 := hH.ext.cell hz1; have c_hz2 := hH.ext.cell hz2; have c_hg0 := hH.ext.cell hg0; have c_hg1 := hH.ext.cell hg1; have c_hg2 := hH.ext.cell hg2; have c_hg3 := hH.ext.cell hg3
     go_simp
     apply sk hK
     · (try simp only [r5]); rfl
     exact ⟨hH, jD (jB (rp (fun _ => rfl))) hV⟩
   refine st 8 rfl (fun b t wx hJ hb hd hcl Kc hK => ?_) ?_
   · obtain ⟨hH, hV⟩ := hJ
     have c_hx0 := hH.ext.cell hx0; have c_hx1 := hH.ext.cell hx1; have c_hx2 := hH.ext.cell hx2; have c_hz0 := hH.ext.cell hz0; have c_hz1 := hH.ext.cell hz1; have c_hz2 := hH.ext.cell hz2; have c_hg0 := hH.ext.cell hg0; have c_hg1 := hH.ext.cell hg1; have c_hg2 := hH.ext.cell hg2; have c_hg3 := hH.ext.cell hg3
     go_simp
     apply sk hK
     · rfl
     exact ⟨hH, jD (jB (jA (rp (fun _ => rfl)))) hV⟩
   refine st 9 rfl (fun b t wx hJ hb hd hcl Kc hK => ?_) ?_
   · obtain ⟨hH, hV⟩ := hJ
     have d7 := so hd 7; have r7 := hV.2.2.2.2.2.2.2.1 d7; have c_hx0 := hH.ext.cell hx0; have c_hx1 := hH.ext.cell hx1; have c_hx2 := hH.ext.cell hx2; have c_hz0 := hH.ext.cell hz0; have c_hz1 := hH.ext.cell hz1; have c_hz2 := hH.ext.cell hz2; have c_hg0 := hH.ext.cell hg0; have c_hg1 := hH.ext.cell hg1; have c_hg2 := hH.ext.cell hg2; have c_hg3 := hH.ext.cell hg3
     go_simp
     apply sk hK
     · (try simp only [r7]); rfl
     exact ⟨hH, jD (jD (rp (fun _ => rfl))) hV⟩
   refine st 10 rfl (fun b t wx hJ hb hd hcl Kc hK => ?_) ?_
   · obtain ⟨hH, hV⟩ := hJ
     have c_hx0 := hH.ext.cell hx0; have c_hx1 := hH.ext.cell hx1; have c_hx2 := hH.ext.cell hx2; have c_hz0 := hH.ext.cell hz0; have c_hz1 := hH.ext.cell hz1; have c_hz2 := hH.ext.cell hz2; have c_hg0 := hH.ext.cell hg0; have c_hg1 := hH.ext.cell hg1; have c_hg2 := hH.ext.cell hg2; have c_hg3 := hH.ext.cell hg3
     go_simp
     apply sk hK
     · rfl
     exact ⟨hH, jD (jD (jA (rp (fun _ => rfl)))) hV⟩
   refine st 11 rfl (fun b t wx hJ hb hd hcl Kc hK => ?_) ?_
   · obtain ⟨hH, hV⟩ := hJ
     have d8 := so hd 8; have d9 := so hd 9; have r8 := hV.2.2.2.2.2.2.2.2.1 d8; have r9 := hV.2.2.2.2.2.2.2.2.2.1 d9; have c_hx0 := hH.ext.cell hx0; have c_hx1 := hH.ext.cell hx1; have c_hx2 := hH.ext.cell hx2; have c_hz0 := hH.ext.cell hz0; have c_hz1 := hH.ext.cell hz1; have c_hz2 := hH.ext.cell hz2; have c_hg0 := hH.ext.cell hg0; have c_hg1 := hH.ext.cell hg1; have c_hg2 := hH.ext.cell hg2; have c_hg3 := hH.ext.cell hg3
     go_simp
     apply sk hK
     · (try simp only [r8, r9]); rfl
     exact ⟨hH, jD (jD (jB (rp (fun _ => rfl)))) hV⟩
   refine st 12 rfl (fun b t wx hJ hb hd hcl Kc hK => ?_) ?_
   · obtain ⟨hH, hV⟩ := hJ
     have d10 := so hd 10; have r10 := hV.2.2.2.2.2.2.2.2.2.2.1 d10; have c_hx0 := hH.ext.cell hx0; have c_hx1 := hH.ext.cell hx1; have c_hx2 := hH.ext.cell hx2; have c_hz0 := hH.ext.cell hz0; have c_hz1 := hH.ext.cell hz1; have c_hz2 := hH.ext.cell hz2; have c_hg0 := hH.ext.cell hg0; have c_hg1 := hH.ext.cell hg1; have c_hg2 := hH.ext.cell hg2; have c_hg3 := hH.ext.cell hg3
     go_simp
     apply sk hK
     · (try simp only [r10]); rfl
     exact ⟨hH, jD (jD (jB (jA (rp (fun _ => rfl))))) hV⟩
   refine st 13 rfl (fun b t wx hJ hb hd hcl Kc hK => ?_) ?_
   · obtain ⟨hH, hV⟩ := hJ
     have c_hx0 := hH.ext.cell hx0; have c_hx1 := hH.ext.cell hx1; have c_hx2 := hH.ext.cell hx2; have c_hz0 := hH.ext.cell hz0; have c_hz1 := hH.ext.cell hz1; have c_hz2 := hH.ext.cell hz2; have c_hg0 := hH.ext.cell hg0; have c_hg1 := hH.ext.cell hg1; have c_hg2 := hH.ext.cell hg2; have c_hg3 := hH.ext.cell hg3
     go_simp
     apply sk hK
     · rfl
     exact ⟨hH, jD (jD (jD (rp (fun _ => rfl)))) hV⟩
   refine st 14 rfl (fun b t wx hJ hb hd hcl Kc hK => ?_) ?_
   · obtain ⟨hH, hV⟩ := hJ
     have c_hx0 := hH.ext.cell hx0; have c_hx1 := hH.ext.cell hx1; have c_hx2 := hH.ext.cell hx2; have c_hz0 := hH.ext.cell hz0; have c_hz1 := hH.ext.cell hz1; have c_hz2 := hH.ext.cell hz2; have c_hg0 := hH.ext.cell hg0; have c_hg1 := hH.ext.cell hg1; have c_hg2 := hH.ext.cell hg2; have c_hg3 := hH.ext.cell hg3
     go_simp
     apply sk hK
     · rfl
     exact ⟨hH, jD (jD (jD (jA (rp (fun _ => rfl))))) hV⟩
   refine st 15 rfl (fun b t wx hJ hb hd hcl Kc hK => ?_) ?_
   · obtain ⟨hH, hV⟩ := hJ
     have c_hx0 := hH.ext.cell hx0; have c_hx1 := hH.ext.cell hx1; have c_hx2 := hH.ext.cell hx2; have c_hz0 := hH.ext.cell hz0; have c_hz1 := hH.ext.cell hz1; have c_hz2 := hH.ext.cell hz2; have c_hg0 := hH.ext.cell hg0; have c_hg1 := hH.ext.cell hg1; have c_hg2 := hH.ext.cell hg2; have c_hg3 := hH.ext.cell hg3
     go_simp
     apply sk hK
     · rfl
     exact ⟨hH, jD (jD (jD (jB (rp (fun _ => rfl))))) hV⟩
   refine st 16 rfl (fun b t wx hJ hb hd hcl Kc hK => ?_) ?_
   · obtain ⟨hH, hV⟩ := hJ
     have d12 := so hd 12; have d13 := so hd 13; have d14 := so hd 14; have r12 := hV.2.2.2.2.2.2.2.2.2.2.2.2.1 d12; have r13 := hV.2.2.2.2.2.2.2.2.2.2.2.2.2.1 d13; have r14 := hV.2.2.2.2.2.2.2.2.2.2.2.2.2.2.1 d14
     have hN := hH; (try simp only [hb, d12, d13, d14, cond_true, cond_false] at hN)
     go_simp
     go_at_call 78
     refine (HRL.out _ (hOA.toS.ext hH.ext)).mono ?_; rintro e15 w15 ⟨v15, rfl, o15, h15⟩
     obtain ⟨x15, c15, rfl⟩ := o15.shape1 RL.length rfl
     (try go_simp)
     apply sk hK
     · (try simp only [r12, r13, r14]); rfl
     exact ⟨by have hX := hN.addI 1 h15 o15 (Nat.le_refl _); simpa only [List.set_cons_zero, List.set_cons_succ, updB, updV, blkOf_mk, tup0_mk, partsOf3, Nat.reduceBEq, cond_true, cond_false, hb, d12, d13, d14, r12, r13, r14] using hX, jD (jD (jD (jB (jA (rp (fun _ => ⟨_, _, rfl⟩)))))) hV⟩
   refine st 17 rfl (fun b t wx hJ hb hd hcl Kc hK => ?_) ?_
   · obtain ⟨hH, v0, v1, v2, v3, v4, v5, v6, v7, v8, v9, v10, v11, v12, v13, v14, v15, v16, v17, v18, v19, v20, v22⟩ := hJ
     have d1 := so hd 1; have d6 := so hd 6; have d11 := so hd 11; have d15 := so hd 15
     have n17 : b 17 = false := nf hb fun h => sc hcl 17 16 (h)
     have n18 : b 18 = false := nf hb fun h => sc hcl 17 16 (sc hcl 18 17 (h))
     have r1 := v1 d1; have r6 := v6 d6; have r11 := v11 d11; have r15 := v15 d15
     obtain ⟨x_15, c_15, r15⟩ := r15
     have hN := hH; (try simp only [hb, d1, d6, d11, d15, n17, n18, cond_true, cond_false] at hN)
     go_simp
     go_at_call 13
     refine (contractPair_any HHR.out HIA.out HIB.out RL _ _ _ _ (HYA.out _ hH.ext) (HYB.out _ hH.ext) (by have h := hN.ints (k := 1) rfl; rw [r15] at h; exact h)).mono ?_; rintro e16 w16 ⟨vc, rfl, oc, hc⟩
     obtain ⟨pa1, na1, ca1, pa2, na2, ca2, pa3, na3, ca3, rfl⟩ := oc.shape
     (try go_simp)
     apply sk hK
     · (try simp only [r1, r6, r11, r15]); rfl
     exact ⟨by have hX := hN.addT 2 hc oc (Nat.le_refl _); simpa only [List.set_cons_zero, List.set_cons_succ, updB, updV, blkOf_mk, tup0_mk, partsOf3, Nat.reduceBEq, cond_true, cond_false, hb, d1, d6, d11, d15, n17, n18, r1, r6, r11, r15] using hX, v0, v1, v2, v3, v4, v5, v6, v7, v8, v9, v10, v11, v12, v13, v14, v15, fun _ => ⟨_, _, _, _, _, _, _, _, _, rfl⟩, ab n17, ab n18, v19, v20, v22⟩
   refine st 18 rfl (fun b t wx hJ hb hd hcl Kc hK => ?_) ?_
   · obtain ⟨hH, hV⟩ := hJ
     have d16 := so hd 16; have r16 := hV.2.2.2.2.2.2.2.2.2.2.2.2.2.2.2.2.1 d16
     obtain ⟨p1_16, n1_16, c1_16, p2_16, n2_16, c2_16, p3_16, n3_16, c3_16, r16⟩ := r16
     have c_hx0 := hH.ext.cell hx0; have c_hx1 := hH.ext.cell hx1; have c_hx2 := hH.ext.cell hx2; have c_hz0 := hH.ext.cell hz0; have c_hz1 := hH.ext.cell hz1; have c_hz2 := hH.ext.cell hz2; have c_hg0 := hH.ext.cell hg0; have c_hg1 := hH.ext.cell hg1; have c_hg2 := hH.ext.cell hg2; have c_hg3 := hH.ext.cell hg3
     go_simp
     apply sk hK
     · (try simp only [r16]); rfl
     exact ⟨hH, jD (jD (jD (jD (jA (rp (fun _ => (by first | rfl | exact r16.symm))))))) hV⟩
   refine st 19 rfl (fun b t wx hJ hb hd hcl Kc hK => ?_) ?_
   · obtain ⟨hH, hV⟩ := hJ
     have d16 := sc hcl 17 16 (so hd 17); have d17 := so hd 17
     have n21 : b 21 = false := nf hb fun h => sc hcl 21 18 (h)
     have r16 := hV.2.2.2.2.2.2.2.2.2.2.2.2.2.2.2.2.1 d16; have r17 := hV.2.2.2.2.2.2.2.2.2.2.2.2.2.2.2.2.2.1 d17
     obtain ⟨p1_16, n1_16, c1_16, p2_16, n2_16, c2_16, p3_16, n3_16, c3_16, r16⟩ := r16
     have hN := hH; (try simp only [hb, d16, d17, n21, cond_true, cond_false] at hN)
     have e16 := r16 -- d16
     go_simp
     apply sk hK
     · (try simp only [r16, r17]); rfl
     exact ⟨by have hX := hN; simpa only [List.set_cons_zero, List.set_cons_succ, updB, updV, blkOf_mk, tup0_mk, partsOf3, Nat.reduceBEq, cond_true, cond_false, hb, d16, d17, n21, r16, r17] using hX, jD (jD (jD (jD (jB (rp (fun _ => (by show _ = tup0 (t 16); rw [r16]; rfl))))))) hV⟩
   refine st 20 rfl (fun b t wx hJ hb hd hcl Kc hK => ?_) ?_
   · obtain ⟨hH, hV⟩ := hJ
     have d16 := sc hcl 17 16 (so hd 17); have d17 := so hd 17; have r16 := hV.2.2.2.2.2.2.2.2.2.2.2.2.2.2.2.2.1 d16; have r17 := hV.2.2.2.2.2.2.2.2.2.2.2.2.2.2.2.2.2.1 d17
     obtain ⟨p1_16, n1_16, c1_16, p2_16, n2_16, c2_16, p3_16, n3_16, c3_16, r16⟩ := r16
     have e16 := r16 -- d16
     go_simp
     apply sk hK
     · (try simp only [r16, r17]); rfl
     exact ⟨hH, jD (jD (jD (jD (jB (jA (rp (fun _ => rfl))))))) hV⟩
   refine st 21 rfl (fun b t wx hJ hb hd hcl Kc hK => ?_) ?_
   · obtain ⟨hH, hV⟩ := hJ
     have n21 : b 21 = false := nf hb fun h => sc hcl 21 20 (h)
     have hN := hH; (try simp only [hb, n21, cond_true, cond_false] at hN)
     go_simp
     apply sk hK
     · rfl
     exact ⟨by have hX := hN.addB 3 #[.slice none 0 0, .slice none 0 0, .slice none 0 0] 35; simpa only [List.set_cons_zero, List.set_cons_succ, updB, updV, blkOf_mk, tup0_mk, partsOf3, Nat.reduceBEq, cond_true, cond_false, hb, n21] using hX, jD (jD (jD (jD (jD (rp (fun _ => ⟨_, rfl⟩)))))) hV⟩
   refine st 22 rfl (fun b t wx hJ hb hd hcl Kc hK => ?_) ?_
   · obtain ⟨hH, hV⟩ := hJ
     have d0 := so hd 0; have d1 := so hd 1; have d2 := so hd 2; have d3 := so hd 3; have d4 := so hd 4; have d5 := so hd 5; have d6 := so hd 6; have d7 := so hd 7; have d8 := so hd 8; have d9 := so hd 9; have d10 := so hd 10; have d11 := so hd 11; have d12 := so hd 12; have d13 := so hd 13; have d14 := so hd 14; have d15 := so hd 15; have d16 := so hd 16; have d17 := so hd 17; have d18 := so hd 18; have d20 := so hd 20; have r0 := hV.1 d0; have r1 := hV.2.1 d1; have r2 := hV.2.2.1 d2; have r3 := hV.2.2.2.1 d3; have r4 := hV.2.2.2.2.1 d4; have r5 := hV.2.2.2.2.2.1 d5; have r6 := hV.2.2.2.2.2.2.1 d6; have r7 := hV.2.2.2.2.2.2.2.1 d7; have r8 := hV.2.2.2.2.2.2.2.2.1 d8; have r9 := hV.2.2.2.2.2.2.2.2.2.1 d9; have r10 := hV.2.2.2.2.2.2.2.2.2.2.1 d10; have r11 := hV.2.2.2.2.2.2.2.2.2.2.2.1 d11; have r12 := hV.2.2.2.2.2.2.2.2.2.2.2.2.1 d12; have r13 := hV.2.2.2.2.2.2.2.2.2.2.2.2.2.1 d13; have r14 := hV.2.2.2.2.2.2.2.2.2.2.2.2.2.2.1 d14; have r15 := hV.2.2.2.2.2.2.2.2.2.2.2.2.2.2.2.1 d15; have r16 := hV.2.2.2.2.2.2.2.2.2.2.2.2.2.2.2.2.1 d16; have r17 := hV.2.2.2.2.2.2.2.2.2.2.2.2.2.2.2.2.2.1 d17; have r18 := hV.2.2.2.2.2.2.2.2.2.2.2.2.2.2.2.2.2.2.1 d18; have r20 := hV.2.2.2.2.2.2.2.2.2.2.2.2.2.2.2.2.2.2.2.2.1 d20
     obtain ⟨x_15, c_15, r15⟩ := r15
     obtain ⟨p1_16, n1_16, c1_16, p2_16, n2_16, c2_16, p3_16, n3_16, c3_16, r16⟩ := r16
     obtain ⟨q_20, r20⟩ := r20
     have hN := hH; (try simp only [hb, d0, d1, d2, d3, d4, d5, d6, d7, d8, d9, d10, d11, d12, d13, d14, d15, d16, d17, d18, d20, cond_true, cond_false] at hN)
     rw [r16, tup0_mk] at r18 -- d16
     simp only [r20, r18, blkOf_mk, tup0_mk, partsOf3] at hN
     have B := hN.blk (k := 3) rfl
     have f0 := B.free 0; have z0 := B.cell (j := 0) rfl
     have f1 := B.free 1; have z1 := B.cell (j := 1) rfl
     have f2 := B.free 2; have z2 := B.cell (j := 2) rfl
     have lB := B.lt; have hmk0 := @tup0_mk
     go_simp
     refine hK.out _ undef _ ?_ ?_; rotate_left 1
     · (try simp only [r0, r1, r2, r3, r4, r5, r6, r7, r8, r9, r10, r11, r12, r13, r14, r15, r16, r17, r18, r20]); rfl
     exact ⟨by have hX := hN.setB3' (k := 3) rfl (.slice p1_16 n1_16 c1_16) (.slice p2_16 n2_16 c2_16) (.slice p3_16 n3_16 c3_16); simpa only [List.set_cons_zero, List.set_cons_succ, updB, updV, blkOf_mk, tup0_mk, partsOf3, Nat.reduceBEq, cond_true, cond_false, hb, d0, d1, d2, d3, d4, d5, d6, d7, d8, d9, d10, d11, d12, d13, d14, d15, d16, d17, d18, d20, r0, r1, r2, r3, r4, r5, r6, r7, r8, r9, r10, r11, r12, r13, r14, r15, r16, r17, r18, r20] using hX, hV⟩
   refine st 23 rfl (fun b t wx hJ hb hd hcl Kc hK => ?_) ?_
   · obtain ⟨hH, hV⟩ := hJ
     have d0 := so hd 0; have d1 := so hd 1; have d2 := so hd 2; have d3 := so hd 3; have d4 := so hd 4; have d5 := so hd 5; have d6 := so hd 6; have d7 := so hd 7; have d8 := so hd 8; have d9 := so hd 9; have d10 := so hd 10; have d11 := so hd 11; have d12 := so hd 12; have d13 := so hd 13; have d14 := so hd 14; have d15 := so hd 15; have d16 := so hd 16; have d17 := so hd 17; have d18 := so hd 18; have d19 := so hd 19; have d20 := so hd 20; have d21 := so hd 21; have r0 := hV.1 d0; have r1 := hV.2.1 d1; have r2 := hV.2.2.1 d2; have r3 := hV.2.2.2.1 d3; have r4 := hV.2.2.2.2.1 d4; have r5 := hV.2.2.2.2.2.1 d5; have r6 := hV.2.2.2.2.2.2.1 d6; have r7 := hV.2.2.2.2.2.2.2.1 d7; have r8 := hV.2.2.2.2.2.2.2.2.1 d8; have r9 := hV.2.2.2.2.2.2.2.2.2.1 d9; have r10 := hV.2.2.2.2.2.2.2.2.2.2.1 d10; have r11 := hV.2.2.2.2.2.2.2.2.2.2.2.1 d11; have r12 := hV.2.2.2.2.2.2.2.2.2.2.2.2.1 d12; have r13 := hV.2.2.2.2.2.2.2.2.2.2.2.2.2.1 d13; have r14 := hV.2.2.2.2.2.2.2.2.2.2.2.2.2.2.1 d14; have r15 := hV.2.2.2.2.2.2.2.2.2.2.2.2.2.2.2.1 d15; have r16 := hV.2.2.2.2.2.2.2.2.2.2.2.2.2.2.2.2.1 d16; have r17 := hV.2.2.2.2.2.2.2.2.2.2.2.2.2.2.2.2.2.1 d17; have r18 := hV.2.2.2.2.2.2.2.2.2.2.2.2.2.2.2.2.2.2.1 d18; have r19 := hV.2.2.2.2.2.2.2.2.2.2.2.2.2.2.2.2.2.2.2.1 d19; have r20 := hV.2.2.2.2.2.2.2.2.2.2.2.2.2.2.2.2.2.2.2.2.1 d20
     obtain ⟨x_15, c_15, r15⟩ := r15
     obtain ⟨p1_16, n1_16, c1_16, p2_16, n2_16, c2_16, p3_16, n3_16, c3_16, r16⟩ := r16
     obtain ⟨q_20, r20⟩ := r20
     have c_hx0 := hH.ext.cell hx0; have c_hx1 := hH.ext.cell hx1; have c_hx2 := hH.ext.cell hx2; have c_hz0 := hH.ext.cell hz0; have c_hz1 := hH.ext.cell hz1; have c_hz2 := hH.ext.cell hz2; have c_hg0 := hH.ext.cell hg0; have c_hg1 := hH.ext.cell hg1; have c_hg2 := hH.ext.cell hg2; have c_hg3 := hH.ext.cell hg3
     go_simp
     apply sk hK
     · (try simp only [r0, r1, r2, r3, r4, r5, r6, r7, r8, r9, r10, r11, r12, r13, r14, r15, r16, r17, r18, r19, r20]); rfl
     exact ⟨hH, jD (jD (jD (jD (jD (jA (fun _ => fun _ => rfl)))))) hV⟩
   exact AllSteps.nil
  intro b t wb hJ hall
  obtain ⟨hHb, v0, v1, v2, v3, v4, v5, v6, v7, v8, v9, v10, v11, v12, v13, v14, v15, v16, v17, v18, v19, v20, v22⟩ := hJ
  have a0 := hall 0 (by decide); have a1 := hall 1 (by decide); have a2 := hall 2 (by decide); have a3 := hall 3 (by decide); have a4 := hall 4 (by decide); have a5 := hall 5 (by decide); have a6 := hall 6 (by decide); have a7 := hall 7 (by decide); have a8 := hall 8 (by decide); have a9 := hall 9 (by decide); have a10 := hall 10 (by decide); have a11 := hall 11 (by decide); have a12 := hall 12 (by decide); have a13 := hall 13 (by decide); have a14 := hall 14 (by decide); have a15 := hall 15 (by decide); have a16 := hall 16 (by decide); have a17 := hall 17 (by decide); have a18 := hall 18 (by decide); have a19 := hall 19 (by decide); have a20 := hall 20 (by decide); have a21 := hall 21 (by decide); have a22 := hall 22 (by decide)
  (try simp only [a0, a1, a2, a3, a4, a5, a6, a7, a8, a9, a10, a11, a12, a13, a14, a15, a16, a17, a18, a19, a20, a21, a22, cond_true] at hHb)
  replace v0 := v0 a0; replace v1 := v1 a1; replace v2 := v2 a2; replace v3 := v3 a3; replace v4 := v4 a4; replace v5 := v5 a5; replace v6 := v6 a6; replace v7 := v7 a7; replace v8 := v8 a8; replace v9 := v9 a9; replace v10 := v10 a10; replace v11 := v11 a11; replace v12 := v12 a12; replace v13 := v13 a13; replace v14 := v14 a14; replace v15 := v15 a15; replace v16 := v16 a16; replace v17 := v17 a17; replace v18 := v18 a18; replace v19 := v19 a19; replace v20 := v20 a20; replace v22 := v22 a22
  clear hall a0 a1 a2 a3 a4 a5 a6 a7 a8 a9 a10 a11 a12 a13 a14 a15 a16 a17 a18 a19 a20 a21 a22
  generalize t 22 = x22 at hHb v22 ⊢; generalize t 20 = x20 at hHb v20 ⊢; generalize t 19 = x19 at hHb v19 ⊢; generalize t 18 = x18 at hHb v18 ⊢; generalize t 17 = x17 at hHb v17 ⊢; generalize t 16 = x16 at hHb v16 v17 v18 ⊢; generalize t 15 = x15 at hHb v15 ⊢; generalize t 14 = x14 at hHb v14 ⊢; generalize t 13 = x13 at hHb v13 ⊢; generalize t 12 = x12 at hHb v12 ⊢; generalize t 11 = x11 at hHb v11 ⊢; generalize t 10 = x10 at hHb v10 ⊢; generalize t 9 = x9 at hHb v9 ⊢; generalize t 8 = x8 at hHb v8 ⊢; generalize t 7 = x7 at hHb v7 ⊢; generalize t 6 = x6 at hHb v6 ⊢; generalize t 5 = x5 at hHb v5 ⊢; generalize t 4 = x4 at hHb v4 ⊢; generalize t 3 = x3 at hHb v3 ⊢; generalize t 2 = x2 at hHb v2 ⊢; generalize t 1 = x1 at hHb v1 ⊢; generalize t 0 = x0 at hHb v0 ⊢; subst v0; subst v1; subst v2; subst v3; subst v4; subst v5; subst v6; subst v7; subst v8; subst v9; subst v10; subst v11; subst v12; subst v13; subst v14
  obtain ⟨xb15, cb15, rfl⟩ := v15
  obtain ⟨p1b16, n1b16, c1b16, p2b16, n2b16, c2b16, p3b16, n3b16, c3b16, rfl⟩ := v16
  subst v17; subst v18; subst v19
  obtain ⟨qb20, rfl⟩ := v20
  subst v22
  simp only [blkOf_mk, tup0_mk, partsOf3] at hHb
  clear b
  replace hH := hHb; clear hHb
  replace hH : Held w3 wb [aB (w3.heap.size) 66 [.int .i64 ea, .int .i64 eb], aI (.slice xb15 RL.length cb15) RL, aT (.agg #[.slice p1b16 n1b16 c1b16, .slice p2b16 n2b16 c2b16, .slice p3b16 n3b16 c3b16]) (keepL (joinL La Lb) RL) ((keepL (joinL La Lb) RL).map dm) (flat (contrXs hr dm La Lb RL xa xb)), tB qb20 p1b16 n1b16 c1b16 p2b16 n2b16 c2b16 p3b16 n3b16 c3b16] := hH
  obtain ⟨wv, rfl⟩ : ∃ q, q = wb := ⟨wb, rfl⟩
  have hctl : ct.length = mj := by rw [hTs.len, List.length_map, HMJ.out]
  have HDN := Lib.hid (fun (q : Nat) (h : q = pi ∨ q = pj) => dropGo_no (l := ct) h)
  have HDY := Lib.hid (fun (q : Nat) (h : ¬ (q = pi ∨ q = pj)) (c : Value × Value × Value) (hc : ct[q]? = some c) => dropGo_yes h hc)
  have HD0 : Hid (dropGo ct pi pj 0 = []) := Lib.hid rfl
  have HDE : Hid (dropGo ct pi pj mj = drop2 ct pi pj) := Lib.hid (by unfold drop2; rw [hctl])
  have HDL := Lib.hid (fun q => dropGo_len ct pi pj q)
  obtain ⟨DG, hDG⟩ : ∃ q, dropGo ct pi pj = q := ⟨_, rfl⟩
  rw [hDG] at HDN HDY HD0 HDE HDL
  have hmj12 : mj ≤ 12 := by have := HA.out.isN.len; rw [HMJ.out] at this; exact this
  clear hDG hctl
  replace hH := hH.nilR 35 3
  replace hH : Held w3 wv [aB (w3.heap.size) 66 [.int .i64 ea, .int .i64 eb], aI (.slice xb15 RL.length cb15) RL, aT (.agg #[.slice p1b16 n1b16 c1b16, .slice p2b16 n2b16 c2b16, .slice p3b16 n3b16 c3b16]) (keepL (joinL La Lb) RL) ((keepL (joinL La Lb) RL).map dm) (flat (contrXs hr dm La Lb RL xa xb)), tB qb20 p1b16 n1b16 c1b16 p2b16 n2b16 c2b16 p3b16 n3b16 c3b16, aR 35 3 (.slice none 0 0) 0 []] := hH
  have q0_0 := hH.cl 0 0 rfl rfl; have q0_1 := hH.cl 0 1 rfl rfl; have l0_ := hH.bl 0 rfl; obtain ⟨q3_0, q3_1, q3_2, l3_⟩ := hH.c3 3 rfl; have c_hg3 := hH.ext.cell hg3
  go_wp2_with fail
  clear q0_0 q0_1 l0_ q3_0 q3_1 q3_2 l3_ c_hg3
  obtain ⟨wa, rfl⟩ : ∃ q, q = wv := ⟨wv, rfl⟩
  go_loopw [16, 80] (fun vl i wr => ∃ (q : Nat) (al : Option Addr) (cl : Nat), q ≤ mj ∧ i = .int .i64 (q : Int) ∧ vl = .slice al (DG q).length cl ∧ Held w3 wr [aB (w3.heap.size) 66 [.int .i64 ea, .int .i64 eb], aI (.slice xb15 RL.length cb15) RL, aT (.agg #[.slice p1b16 n1b16 c1b16, .slice p2b16 n2b16 c2b16, .slice p3b16 n3b16 c3b16]) (keepL (joinL La Lb) RL) ((keepL (joinL La Lb) RL).map dm) (flat (contrXs hr dm La Lb RL xa xb)), tB qb20 p1b16 n1b16 c1b16 p2b16 n2b16 c2b16 p3b16 n3b16 c3b16, aR 35 3 (.slice al (DG q).length cl) (DG q).length ((DG q).flatMap cells3)]) (fun vl i wr => mj - (RowKit.intOf i).toNat)
  case atStart => exact ⟨0, none, 0, Nat.zero_le _, rfl, by rw [HD0.out]; rfl, by rw [HD0.out]; exact hH⟩
  clear hH
  obtain ⟨q, al, cl, hq, rfl, rfl, hH⟩ := hrel
  have hdl := HDL.out q
  obtain ⟨wq, rfl⟩ : ∃ q, q = wr := ⟨wr, rfl⟩
  by_cases hlt3 : q < mj
  ·
   obtain ⟨_, _, cq, tq, haC, hcq, _, hu0, hu1, hu2, hqL, hqD, hqX⟩ := hTs.get (i := q) (by rw [List.length_map, HMJ.out]; exact hlt3)
   cases haC
   obtain ⟨c1, c2, c3⟩ := cq
   obtain ⟨t1, t2, t3⟩ := tq
   simp only at hqL hqD hqX hu0 hu1 hu2
   obtain ⟨ax1, cx1, rfl, _, _⟩ := hqL.val
   obtain ⟨ax2, cx2, rfl, _, _⟩ := hqD.val
   obtain ⟨ax3, cx3, rfl, _, _⟩ := hqX.val
   have HCQ := Lib.hid hcq
   clear hcq hqL hqD hqX
   have q0_0 := hH.cl 0 0 rfl rfl; have q0_1 := hH.cl 0 1 rfl rfl; have l0_ := hH.bl 0 rfl; obtain ⟨q3_0, q3_1, q3_2, l3_⟩ := hH.c3 3 rfl; have c_hu0 := hH.ext.cell hu0; have c_hu1 := hH.ext.cell hu1; have c_hu2 := hH.ext.cell hu2; have c_hg3 := hH.ext.cell hg3
   go_upto_region 16 with fail
   clear q0_0 q0_1 l0_ q3_0 q3_1 q3_2 l3_ c_hu0 c_hu1 c_hu2 c_hg3
   obtain ⟨hB, hsz⟩ := hH.laid #[.slice ax1 t1.length cx1, .slice ax2 t2.length cx2, .slice ax3 t3.length cx3] 35
   generalize wq.alloc (.cells #[.slice ax1 t1.length cx1, .slice ax2 t2.length cx2, .slice ax3 t3.length cx3] 35) = wn5 at hB hsz ⊢
   replace hH : Held w3 wn5 [aB (w3.heap.size) 66 [.int .i64 ea, .int .i64 eb], aI (.slice xb15 RL.length cb15) RL, aT (.agg #[.slice p1b16 n1b16 c1b16, .slice p2b16 n2b16 c2b16, .slice p3b16 n3b16 c3b16]) (keepL (joinL La Lb) RL) ((keepL (joinL La Lb) RL).map dm) (flat (contrXs hr dm La Lb RL xa xb)), tB qb20 p1b16 n1b16 c1b16 p2b16 n2b16 c2b16 p3b16 n3b16 c3b16, aR 35 3 (.slice al (DG q).length cl) (DG q).length ((DG q).flatMap cells3), tB wq.heap.size ax1 t1.length cx1 ax2 t2.length cx2 ax3 t3.length cx3] := hB
   have HSZwn5 := Lib.hid (show wn5.heap.size = wq.heap.size + 1 by rw [hsz]); clear hB hsz
   by_cases hqi : (q : Int) = (pi : Int)
   ·
    have HE1 := Lib.hid (HDN.out q (.inl (by omega)))
    have q0_0 := hH.cl 0 0 rfl rfl; have q0_1 := hH.cl 0 1 rfl rfl; have l0_ := hH.bl 0 rfl; obtain ⟨q3_0, q3_1, q3_2, l3_⟩ := hH.c3 3 rfl; obtain ⟨q5_0, q5_1, q5_2, l5_⟩ := hH.c3 5 rfl; have c_hu0 := hH.ext.cell hu0; have c_hu1 := hH.ext.cell hu1; have c_hu2 := hH.ext.cell hu2; have c_hg3 := hH.ext.cell hg3
    go_wp2_with fail
    clear q0_0 q0_1 l0_ q3_0 q3_1 q3_2 l3_ q5_0 q5_1 q5_2 l5_ c_hu0 c_hu1 c_hu2 c_hg3
    go_roundw
    case rel => exact ⟨q + 1, _, _, by omega, by go_num, by rw [HE1.out], by rw [HE1.out]; exact hH.sub (.cons_cons _ (.cons_cons _ (.cons_cons _ (.cons_cons _ (.cons_cons _ (.cons _ .slnil))))))⟩
    case measure => simp [RowKit.intOf]; omega
   have hbi : ((q : Int) != (pi : Int)) = true := by simpa using hqi
   by_cases hqj : (q : Int) = (pj : Int)
   ·
    have HE1 := Lib.hid (HDN.out q (.inr (by omega)))
    have q0_0 := hH.cl 0 0 rfl rfl; have q0_1 := hH.cl 0 1 rfl rfl; have l0_ := hH.bl 0 rfl; obtain ⟨q3_0, q3_1, q3_2, l3_⟩ := hH.c3 3 rfl; obtain ⟨q5_0, q5_1, q5_2, l5_⟩ := hH.c3 5 rfl; have c_hu0 := hH.ext.cell hu0; have c_hu1 := hH.ext.cell hu1; have c_hu2 := hH.ext.cell hu2; have c_hg3 := hH.ext.cell hg3
    go_wp2_with fail
    clear q0_0 q0_1 l0_ q3_0 q3_1 q3_2 l3_ q5_0 q5_1 q5_2 l5_ c_hu0 c_hu1 c_hu2 c_hg3
    go_roundw
    case rel => exact ⟨q + 1, _, _, by omega, by go_num, by rw [HE1.out], by rw [HE1.out]; exact hH.sub (.cons_cons _ (.cons_cons _ (.cons_cons _ (.cons_cons _ (.cons_cons _ (.cons _ .slnil))))))⟩
    case measure => simp [RowKit.intOf]; omega
   have hbj : ((q : Int) != (pj : Int)) = true := by simpa using hqj
   have hE1 := HDY.out q (by omega) _ HCQ.out
   have HE1 := Lib.hid (show (DG (q + 1)).length = (DG q).length + 1 by rw [hE1]; simp)
   have HE2 := Lib.hid (show (DG (q + 1)).flatMap cells3 = (DG q).flatMap cells3 ++ [.slice ax1 t1.length cx1, .slice ax2 t2.length cx2, .slice ax3 t3.length cx3] by rw [hE1, List.flatMap_append]; rfl)
   clear hE1
   have q0_0 := hH.cl 0 0 rfl rfl; have q0_1 := hH.cl 0 1 rfl rfl; have l0_ := hH.bl 0 rfl; obtain ⟨q3_0, q3_1, q3_2, l3_⟩ := hH.c3 3 rfl; obtain ⟨q5_0, q5_1, q5_2, l5_⟩ := hH.c3 5 rfl; have c_hu0 := hH.ext.cell hu0; have c_hu1 := hH.ext.cell hu1; have c_hu2 := hH.ext.cell hu2; have c_hg3 := hH.ext.cell hg3
   go_wp2_with (at_builtin; refine wpList_app _ rfl _ _ 26 rfl _ _ rfl rfl _ (run_pushR3 _ (hH.grow ((Ext.refl _).alloc _)) (n := (DG q).length) (k := 4) rfl (row_one3 _ _ _ _ _) rfl rfl rfl (by omega)) ?_; rintro vp wp ⟨hHp, gp, rp⟩; obtain ⟨ap, cp, rfl, _, _⟩ := rp.val)
   go_roundw
   case rel => exact ⟨q + 1, _, _, by omega, by go_num, by rw [HE1.out], by rw [HE1.out, HE2.out]; exact hHp.sub (.cons_cons _ (.cons_cons _ (.cons_cons _ (.cons_cons _ (.cons_cons _ (.cons _ .slnil))))))⟩
   case measure => simp [RowKit.intOf]; omega
  have hqe : q = mj := by omega
  subst hqe
  rw [HDE.out] at hH hdl ⊢
  generalize hdr : drop2 ct pi pj = DR at *
  have HDR := Lib.hid hdr; clear hdr
  have q0_0 := hH.cl 0 0 rfl rfl; have q0_1 := hH.cl 0 1 rfl rfl; have l0_ := hH.bl 0 rfl; obtain ⟨q3_0, q3_1, q3_2, l3_⟩ := hH.c3 3 rfl; have c_hg3 := hH.ext.cell hg3
  go_upto_region 20 with (at_builtin; refine wpList_app _ rfl _ _ 26 rfl _ _ rfl rfl _ (run_pushR3 _ (hH.grow ((Ext.refl _).alloc _)) (n := DR.length) (k := 4) rfl (row_one3 _ _ _ _ _) rfl rfl rfl (by omega)) ?_; rintro vp wp ⟨hHp, gp, rp⟩; obtain ⟨ap, cp, hvp, _, _⟩ := rp.val; subst hvp; have yB := hBc.ext hHp.ext; have yl := yB.lt; have y3 := yB.cell (j := 3) rfl; have y3f := yB.free 3; clear yB)
  have EP := hHp.ext
  have gs := grown_setCell (grown_refl wp (some w2.heap.size)) 3 (.slice ap (DR.length + 1) cp)
  have hTen : OwnT wp w3.heap.size (.agg #[.slice p1b16 n1b16 c1b16, .slice p2b16 n2b16 c2b16, .slice p3b16 n3b16 c3b16]) (keepL (joinL La Lb) RL) ((keepL (joinL La Lb) RL).map dm) (flat (contrXs hr dm La Lb RL xa xb)) := hHp.ownT (k := 2) rfl
  have hRow : Row wp 3 (.slice ap (DR.length + 1) cp) (DR.length + 1) (DR.flatMap cells3 ++ [.slice p1b16 n1b16 c1b16, .slice p2b16 n2b16 c2b16, .slice p3b16 n3b16 c3b16]) := rp
  have hsl : s < w3.heap.size := hOA.toS.lt
  have hcl3 : w2.heap.size < w3.heap.size := hBc.lt
  have hv1 : (Value.slice ap (DR.length + 1) cp).ownBlock ≠ some s := fun e => hHp.not_fp (k := 4) rfl hsl (by simp [aR]; exact e)
  have hv2 : (Value.slice ap (DR.length + 1) cp).ownBlock ≠ some w2.heap.size := fun e => hHp.not_fp (k := 4) rfl hcl3 (by simp [aR]; exact e)
  have hrl3 : w.heap.size + 1 < w3.heap.size := hBr.lt
  have hv3 : (Value.slice ap (DR.length + 1) cp).ownBlock ≠ some (w.heap.size + 1) := fun e => hHp.not_fp (k := 4) rfl hrl3 (by simp [aR]; exact e)
  obtain ⟨_, _, _, hvv, hr1, hr2, hr3, _⟩ := hTen.val
  simp at hvv
  obtain ⟨rfl, rfl, rfl⟩ := hvv
  have tA := hTs.step pi pj (c0 := (.slice p1b16 n1b16 c1b16, .slice p2b16 n2b16 c2b16, .slice p3b16 n3b16 c3b16)) (t0 := ((keepL (joinL La Lb) RL), (keepL (joinL La Lb) RL).map dm, flat (contrXs hr dm La Lb RL xa xb))) (m := DR.length + 1) (by rw [HDR.out]) EP (by rw [HDR.out]; exact hRow) hv1 ⟨hr1.ints, hr2.ints, hr3.ints⟩ ⟨fun e => by have := (hr1.block_lt e).1; omega, fun e => by have := (hr2.block_lt e).1; omega, fun e => by have := (hr3.block_lt e).1; omega⟩
  have tB := hTc.step pi pj (c0 := (.slice p1b16 n1b16 c1b16, .slice p2b16 n2b16 c2b16, .slice p3b16 n3b16 c3b16)) (t0 := ((keepL (joinL La Lb) RL), (keepL (joinL La Lb) RL).map dm, flat (contrXs hr dm La Lb RL xa xb))) (m := DR.length + 1) (by rw [HDR.out]) EP (by rw [HDR.out]; exact hRow) hv2 ⟨hr1.ints, hr2.ints, hr3.ints⟩ ⟨fun e => by have := (hr1.block_lt e).1; omega, fun e => by have := (hr2.block_lt e).1; omega, fun e => by have := (hr3.block_lt e).1; omega⟩
  have tR0 := hTr.step pi pj (c0 := (.slice p1b16 n1b16 c1b16, .slice p2b16 n2b16 c2b16, .slice p3b16 n3b16 c3b16)) (t0 := ((keepL (joinL La Lb) RL), (keepL (joinL La Lb) RL).map dm, flat (contrXs hr dm La Lb RL xa xb))) (m := DR.length + 1) (by rw [HDR.out]) EP (by rw [HDR.out]; exact hRow) hv3 ⟨hr1.ints, hr2.ints, hr3.ints⟩ ⟨fun e => by have := (hr1.block_lt e).1; omega, fun e => by have := (hr2.block_lt e).1; omega, fun e => by have := (hr3.block_lt e).1; omega⟩
  replace tB := tB.keep gs
  replace tA := tB.at tA
  have bC2 := (hBc.ext EP).set 3 (.slice ap (DR.length + 1) cp)
  have oA2 := (hOA.ext EP).keepz gs hsc
  have vO2 := (hVO.ext EP).keep gs hVc
  have bN2 := (hBn.ext EP).block (gs.block _ (hBn.ext EP).lt (by simpa using hcn))
  have bR2 := (hBr.ext EP).block (gs.block _ (hBr.ext EP).lt (by simpa using hcr))
  have eW := (hE.trans EP).only gs (fun q hq => by cases hq; exact hcw)
  clear hTen hRow hr1 hr2 hr3 hv1 hv2 hv3 hHp gp rp gs EP hH
  generalize wp.setCell ⟨w2.heap.size, 3, none⟩ (.slice ap (DR.length + 1) cp) = wc at tA tB bC2 oA2 vO2 bN2 bR2 eW ⊢
  go_wp2_with fail
  refine (contract_anyA (arrL_length _ _) wc oA2 HLL2.out HRK2.out pi pj (by rw [List.length_map, HMJ.out]; exact hil) (by rw [List.length_map, HMJ.out]; exact hjl) HNX.out.1 HNX.out.2 bC2.lt).mono ?_; rintro e5 w5 ⟨_, _, u5, rfl, _, _, g5, oA5⟩
  have hTN := tenStep_ten HHR.out HPI.out HPJ.out HTA.out HTB.out (op := op) (ns := cs.map (·.1)) (s := (ea, eb)) (dm := dm)
  rw [HRLE.out, HC.out] at hTN
  have HTN := Lib.hid hTN; clear hTN
  have sA := tA.keep g5
  have sB := sA.at tB
  have bC5 := bC2.block (g5.block _ bC2.lt (by simpa using Ne.symm hsc))
  have vO5 := vO2.keep g5 hVs
  have bN5 := bN2.block (g5.block _ bN2.lt (by simpa using hsn))
  have bR5 := bR2.block (g5.block _ bR2.lt (by simpa using hsr))
  have e5 := eW.only g5 (fun q hq => by cases hq; exact hsw)
  have HSR := Lib.hid (sA.at tR0); have HSA := Lib.hid sA; have HSB := Lib.hid sB; have HBC := Lib.hid bC5; have HV5 := Lib.hid vO5; have HBN := Lib.hid bN5; have HBR := Lib.hid bR5; have HE5 := Lib.hid e5; have HOA5 := Lib.hid oA5
  clear tR0 sA sB bC5 vO5 bN5 bR5 e5 oA5 tA tB bC2 oA2 vO2 bN2 bR2 eW g5
  go_wp2_with fail
  go_roundw
  case measure => simp [RowKit.intOf]; omega
  case rel => exact ⟨j + 1, drop2 cs pi pj ++ [((ts.length : Int) + j, u5)], _, _, _, _, by omega, by go_num, HA2, Lib.hid (by unfold numStep; show _ = drop2 ns (findL ns ea).toNat (findL ns eb).toNat ++ [(ts.length : Int) + j]; rw [← HC.out, HPI.out, HPJ.out, List.map_append, drop2_map]; rfl), by rw [tenStep_lab]; unfold labStep; show OrdA _ s _ _ _ _ (drop2 _ (findL ns ea).toNat (findL ns eb).toNat ++ [resL op _ (findL ns ea).toNat (findL ns eb).toNat]) _; rw [← HC.out, HPI.out, HPJ.out, show (ts.length : Int) + ((j + 1 : Nat) : Int) = (ts.length : Int) + j + 1 by push_cast; omega]; exact HOA5.out, by rw [HTN.out]; exact HSA.out, by rw [HTN.out]; exact HSB.out, by rw [HTN.out]; exact HSR.out, HBC.out, HV5.out, HBN.out, HBR.out, HE5.out⟩
 have hje : j = kk := by omega
 subst hje
 obtain ⟨aC, cC, rfl, _, _⟩ := hTs.toS.val
 rw [List.length_map] at hTs hTc hTr hBc
 obtain ⟨mj, hmj⟩ : ∃ q, tj.length = q := ⟨_, rfl⟩
 rw [hmj] at hTs hTc hTr hBc
 have HMJ := Lib.hid hmj; clear hmj
 have HTR := Lib.hid hTr; have HV := Lib.hid hVO; have HE := Lib.hid hE; have HVR := Lib.hid hVr
 have z0 := hBc.cell (j := 0) rfl; have y0 := hBr.cell (j := 0) rfl; have f0 := hBr.free 0
 have z1 := hBc.cell (j := 1) rfl; have y1 := hBr.cell (j := 1) rfl; have f1 := hBr.free 1
 have z2 := hBc.cell (j := 2) rfl; have y2 := hBr.cell (j := 2) rfl; have f2 := hBr.free 2
 have z3 := hBc.cell (j := 3) rfl; have y3 := hBr.cell (j := 3) rfl; have f3 := hBr.free 3
 have z4 := hBc.cell (j := 4) rfl; have y4 := hBr.cell (j := 4) rfl; have f4 := hBr.free 4
 have lC := hBc.lt; have lR := hBr.lt
 have HG := Lib.hid (grown_setCell (grown_setCell (grown_setCell (grown_setCell (grown_setCell (grown_refl wr (some (w.heap.size + 1))) 0 (.int .i64 k)) 1 (.int .i64 p)) 2 (.int .i64 n)) 3 (.slice aC mj cC)) 4 (.slice aP op.length cP))
 clear hTs hTc hTr hBc hBr hBn hVO hE hOA hVr hVs hVc
 go_wp2_with fail
 refine bodyPost_ret (v := .tuple #[.agg #[.int .i64 k, .int .i64 p, .int .i64 n, .slice aC mj cC, .slice aP op.length cP], .bool true]) (by simp [results, Tryz.results30, go_sem, *]) rfl ?_
 exact ⟨_, _, ns, tj, rfl, by have h := HA.out; rw [HM.out] at h; exact h, (HTR.out.keep HG.out).toS, HV.out.keep HG.out HVR.out, HE.out.only HG.out (fun q hq => by cases hq; omega)⟩
end Go.Proofs.YtlgjddgajdjllaaGreat
