/- Texts of one kind, merged by program. -/
import Derived.Test.YtlgjddgajdjllaaGreatHNetVX
import Derived.Test.YtlgjddgajdjllaaGreatHSubW
/- allIn, FinishTensor of the program. -/
set_option linter.unusedSimpArgs false
set_option linter.unusedVariables false
set_option maxRecDepth 100000
set_option maxHeartbeats 8000000
namespace Go.Proofs.YtlgjddgajdjllaaGreat
open Go.RowKit
theorem allIn_any (va vb : Value) (a b : List Int) (w : World) (ha : IntS w va a) (hb : IntS w vb b) : Calls Tryz.prog 60 #[va, vb] w fun e w' =>
 e = .returned (.bool (a.all fun x => hasL b x)) ∧ w = w' := by
 obtain ⟨av, cv, rfl, hc1, hc2⟩ := ha.val
 go_enter Tryz.func60, Tryz.ntmps60
 go_wp2_with fail
 go_loop [9] (fun i => ∃ j : Nat, j ≤ a.length ∧ i = .int .i64 j ∧ ((a.drop j).all fun x => hasL b x) = (a.all fun x => hasL b x)) (fun i => a.length - (RowKit.intOf i).toNat)
 case atStart => exact ⟨0, Nat.zero_le _, rfl, rfl⟩
 obtain ⟨j, hj, rfl, hq⟩ := hrel
 by_cases hlt : j < a.length
 · obtain ⟨bX, off, y, rfl, hcell, _, hd⟩ := ha.get hlt
   rw [hd, List.all_cons] at hq
   have HQ := Lib.hid hq; clear hq hd
   go_wp2_with fail
   refine (hasInt_any vb b y _ hb).mono ?_; rintro e1 w1 ⟨rfl, rfl⟩
   by_cases hy : hasL b y = true
   · rw [hy]
     go_wp2_with fail
     go_round
     case rel => exact ⟨j + 1, by omega, by go_num, by rw [← HQ.out, hy, Bool.true_and]⟩
     case measure => simp [RowKit.intOf]; omega
   have hy2 := eq_false_of_ne_true hy
   have hr2 : (a.all fun x => hasL b x) = false := by rw [← HQ.out, hy2, Bool.false_and]
   have HF := Lib.hid hr2
   rw [hy2]
   clear hr2 hy hy2
   go_wp2
   go_ret
   exact ⟨by rw [HF.out]; rfl, rfl⟩
 have hje : j = a.length := by omega
 subst hje
 have hr2 : (a.all fun x => hasL b x) = true := by rw [← hq, List.drop_length]; rfl
 have HF := Lib.hid hr2
 clear hr2 hq
 go_wp2
 go_ret
 exact ⟨by rw [HF.out]; rfl, rfl⟩
section
variable {k p n : Int} (hr : ringOk k p n = true)
def finXs (dm : Int → Int) (L op : List Int) (xs : List (El k p n)) : List (El k p n) := permXs hr dm (keepL L op) op (sumXs hr dm L op xs)
end
theorem finishTensor_any {k p n : Int} (hr : ringOk k p n = true) {dm : Int → Int} {U : List Int} {ts : List (NT k p n)} {op : List Int} (hN : IsN k p n dm U ts op) (tv ov : Value) (w : World) (hT : TensS w tv (ts.map (tenOf dm))) (hO : IntS w ov op) {tL : List Int} {ys : List (El k p n)} (hI : IsT k p n dm U tL ys) (hsub : ∀ x ∈ op, x ∈ tL) (vt : Value) (hVt : TenS w vt tL (tL.map dm) (flat ys)) :
 Calls Tryz.prog 27 #[.agg #[.int .i64 k, .int .i64 p, .int .i64 n, tv, ov], vt] w fun e w' => ∃ u, e = .returned (.tuple #[u, .bool true]) ∧ OwnT w' w.heap.size u op (op.map dm) (flat (finXs hr dm tL op ys)) ∧ Ext w w' := by
 have hN2 := hN
 obtain ⟨m, aV, cV, aO, cO, rfl, rfl, hcT1, hcT2, hcO1, hcO2, hm12, hop12, HM, HD3, hTl⟩ := net_in hN hT hO
 have hT0 := hT; have hO0 := hO; have HR := Lib.hid hr; have HN := Lib.hid hN; clear hN; try rw [HM.out]
 have HI := Lib.hid hI
 have HSM := Lib.hid (sum_isT hr hI op)
 have hpm : (keepL tL op).Perm op := (List.perm_ext_iff_of_nodup (hI.sub.keep op).nodup hN2.sub.nodup).2 fun x => by rw [mem_keepL]; exact ⟨fun h => h.2, fun h => ⟨hsub x h, h⟩⟩
 have HPM := Lib.hid hpm
 have HOKT := Lib.hid (hI.yes hr)
 have HALL : Hid ((op.all fun x => hasL tL x) = true) := Lib.hid (List.all_eq_true.2 fun x hx => (hasL_iff _ _).2 (hsub x hx))
 have HTL := Lib.hid hI.ax.rank
 obtain ⟨FX, hFX⟩ : ∃ q, finXs hr dm tL op ys = q := ⟨_, rfl⟩
 rw [hFX]
 have HFX : Hid (permXs hr dm (keepL tL op) op (sumXs hr dm tL op ys) = FX) := Lib.hid hFX
 clear hFX hpm hsub hI hN2
 obtain ⟨g1, m1, i1, g2, m2, i2, g3, m3, i3, rfl⟩ := hVt.shape
 obtain ⟨_, _, _, hvv, htL, htD, htX⟩ := hVt.val
 simp at hvv
 obtain ⟨rfl, rfl, rfl⟩ := hvv
 go_enter Tryz.func27, Tryz.ntmps27
 go_upto_region 1 with fail
 have hH : Held w w [] := Held.new (Ext.refl w) 0
 obtain ⟨hB, hsz⟩ := hH.laid #[.int .i64 k, .int .i64 p, .int .i64 n, .slice aV m cV, .slice aO op.length cO] 29
 generalize w.alloc (.cells #[.int .i64 k, .int .i64 p, .int .i64 n, .slice aV m cV, .slice aO op.length cO] 29) = wn1 at hB hsz ⊢
 replace hH : Held w wn1 [nB w.heap.size k p n aV m cV aO op.length cO] := hB
 have HSZwn1 := Lib.hid (show wn1.heap.size = w.heap.size + 1 by rw [hsz]); clear hB hsz
 obtain ⟨hB, hsz⟩ := hH.laid #[.slice g1 m1 i1, .slice g2 m2 i2, .slice g3 m3 i3] 35
 generalize wn1.alloc (.cells #[.slice g1 m1 i1, .slice g2 m2 i2, .slice g3 m3 i3] 35) = wn2 at hB hsz ⊢
 replace hH : Held w wn2 [nB w.heap.size k p n aV m cV aO op.length cO, tB (w.heap.size + 1) g1 m1 i1 g2 m2 i2 g3 m3 i3] := by rw [HSZwn1.out] at hB; exact hB
 have HSZwn2 := Lib.hid (show wn2.heap.size = w.heap.size + 1 + 1 by rw [hsz, HSZwn1.out]); clear hB hsz
 obtain ⟨hB, hsz⟩ := hH.laid #[.slice none 0 0, .slice none 0 0, .slice none 0 0] 35
 generalize wn2.alloc (.cells #[.slice none 0 0, .slice none 0 0, .slice none 0 0] 35) = wn3 at hB hsz ⊢
 replace hH : Held w wn3 [nB w.heap.size k p n aV m cV aO op.length cO, tB (w.heap.size + 1) g1 m1 i1 g2 m2 i2 g3 m3 i3, tB (w.heap.size + 1 + 1) none 0 0 none 0 0 none 0 0] := by rw [HSZwn2.out] at hB; exact hB
 have HSZwn3 := Lib.hid (show wn3.heap.size = w.heap.size + 1 + 1 + 1 by rw [hsz, HSZwn2.out]); clear hB hsz
 obtain ⟨q0_0, q0_1, q0_2, q0_3, q0_4, l0_⟩ := hH.c5 0 rfl; obtain ⟨q1_0, q1_1, q1_2, l1_⟩ := hH.c3 1 rfl; obtain ⟨q2_0, q2_1, q2_2, l2_⟩ := hH.c3 2 rfl
 go_wp2_with fail
 clear q0_0 q0_1 q0_2 q0_3 q0_4 l0_ q1_0 q1_1 q1_2 l1_ q2_0 q2_1 q2_2 l2_
 refine (networkOk_any HR.out HN.out _ _ _ (hT0.ext hH.ext) (hO0.ext hH.ext)).mono ?_; rintro e0 w0 ⟨rfl, h0⟩
 replace hH := hH.grow h0; clear h0
 obtain ⟨q0_0, q0_1, q0_2, q0_3, q0_4, l0_⟩ := hH.c5 0 rfl; obtain ⟨q1_0, q1_1, q1_2, l1_⟩ := hH.c3 1 rfl; obtain ⟨q2_0, q2_1, q2_2, l2_⟩ := hH.c3 2 rfl
 go_wp2_with fail
 clear q0_0 q0_1 q0_2 q0_3 q0_4 l0_ q1_0 q1_1 q1_2 l1_ q2_0 q2_1 q2_2 l2_
 refine (tensorOk_impl k p n _ tL (tL.map dm) (flat ys) _ (hVt.ext hH.ext)).mono ?_; rintro e1 w1 ⟨rfl, h1⟩
 rw [HOKT.out]
 replace hH := hH.grow h1; clear h1
 obtain ⟨q0_0, q0_1, q0_2, q0_3, q0_4, l0_⟩ := hH.c5 0 rfl; obtain ⟨q1_0, q1_1, q1_2, l1_⟩ := hH.c3 1 rfl; obtain ⟨q2_0, q2_1, q2_2, l2_⟩ := hH.c3 2 rfl
 go_wp2_with fail
 clear q0_0 q0_1 q0_2 q0_3 q0_4 l0_ q1_0 q1_1 q1_2 l1_ q2_0 q2_1 q2_2 l2_
 refine (allIn_any _ _ op tL _ (hO.ext hH.ext) (htL.ext hH.ext)).mono ?_; rintro e2 w2 ⟨rfl, rfl⟩
 rw [HALL.out]
 obtain ⟨q0_0, q0_1, q0_2, q0_3, q0_4, l0_⟩ := hH.c5 0 rfl; obtain ⟨q1_0, q1_1, q1_2, l1_⟩ := hH.c3 1 rfl; obtain ⟨q2_0, q2_1, q2_2, l2_⟩ := hH.c3 2 rfl
 go_upto_region 3 with fail
 clear q0_0 q0_1 q0_2 q0_3 q0_4 l0_ q1_0 q1_1 q1_2 l1_ q2_0 q2_1 q2_2 l2_
 replace hH := hH.mores 2
 replace hH : Held w w1 [nB w.heap.size k p n aV m cV aO op.length cO, tB (w.heap.size + 1) g1 m1 i1 g2 m2 i2 g3 m3 i3, tB (w.heap.size + 1 + 1) none 0 0 none 0 0 none 0 0, emp, emp] := hH
 refine wp_region_steps ?Fa (fun b t wx => Held w wx [nB w.heap.size k p n aV m cV aO op.length cO, tB (w.heap.size + 1) g1 m1 i1 g2 m2 i2 g3 m3 i3, (bif b 13 then aB (w.heap.size + 1 + 1) 35 (partsOf (t 11)) else tB (w.heap.size + 1 + 1) none 0 0 none 0 0 none 0 0), (bif b 7 then aT (t 7) (keepL tL op) ((keepL tL op).map dm) (flat (sumXs hr dm tL op ys)) else emp), (bif b 10 then aT (tup0 (t 10)) op (op.map dm) (flat FX) else emp)] ∧ (b 0 = true → t 0 = .pointer (some ⟨w.heap.size, 0, none⟩)) ∧ (b 1 = true → t 1 = .agg #[.int .i64 k, .int .i64 p, .int .i64 n]) ∧ (b 2 = true → t 2 = .pointer (some ⟨w.heap.size, 0, none⟩)) ∧ (b 3 = true → t 3 = .agg #[.int .i64 k, .int .i64 p, .int .i64 n]) ∧ (b 4 = true → t 4 = .agg #[.slice g1 m1 i1, .slice g2 m2 i2, .slice g3 m3 i3]) ∧ (b 5 = true → t 5 = .pointer (some ⟨w.heap.size, 4, none⟩)) ∧ (b 6 = true → t 6 = .slice aO op.length cO) ∧ (b 7 = true → ∃ p1 n1 c1 p2 n2 c2 p3 n3 c3, t 7 = .agg #[.slice p1 n1 c1, .slice p2 n2 c2, .slice p3 n3 c3]) ∧ (b 8 = true → t 8 = .pointer (some ⟨w.heap.size, 4, none⟩)) ∧ (b 9 = true → t 9 = .slice aO op.length cO) ∧ (b 10 = true → ∃ p1 n1 c1 p2 n2 c2 p3 n3 c3, t 10 = .tuple #[.agg #[.slice p1 n1 c1, .slice p2 n2 c2, .slice p3 n3 c3], .bool true]) ∧ (b 11 = true → t 11 = tup0 (t 10)) ∧ (b 12 = true → t 12 = .bool true) ∧ (b 14 = true → t 14 = .bool true)) ?hFa (by kernel_rfl) (by kernel_rfl) ?hJa ?hSa ?hEa
 (case hFa => intro t; simp only [putAll, Act.put, List.setIfInBounds_toArray, List.set_cons_zero, List.set_cons_succ, Nat.reduceAdd, Nat.zero_add]; exact rfl)
 case hJa => exact ⟨hH.grow ((Ext.refl _).drew), nof, nof, nof, nof, nof, nof, nof, nof, nof, nof, nof, nof, nof, nof⟩
 case hSa => as_aux_lemma =>
  refine st 1 rfl (fun b t wx hJ hb hd hcl Kc hK => ?_) ?_
  · obtain ⟨hH, hV⟩ := hJ
    go_simp
    apply sk hK
    · rfl
    exact ⟨hH, rp (fun _ => rfl) hV⟩
  refine st 2 rfl (fun b t wx hJ hb hd hcl Kc hK => ?_) ?_
  · obtain ⟨hH, hV⟩ := hJ
    have d0 := so hd 0; have r0 := hV.1 d0; obtain ⟨q0_0, q0_1, q0_2, _⟩ := hH.c3 0 rfl
    go_simp
    apply sk hK
    · (try simp only [r0]); rfl
    exact ⟨hH, jA (rp (fun _ => rfl)) hV⟩
  refine st 3 rfl (fun b t wx hJ hb hd hcl Kc hK => ?_) ?_
  · obtain ⟨hH, hV⟩ := hJ
    go_simp
    apply sk hK
    · rfl
    exact ⟨hH, jB (rp (fun _ => rfl)) hV⟩
  refine st 4 rfl (fun b t wx hJ hb hd hcl Kc hK => ?_) ?_
  · obtain ⟨hH, hV⟩ := hJ
    have d2 := so hd 2; have r2 := hV.2.2.1 d2; obtain ⟨q0_0, q0_1, q0_2, _⟩ := hH.c3 0 rfl
    go_simp
    apply sk hK
    · (try simp only [r2]); rfl
    exact ⟨hH, jB (jA (rp (fun _ => rfl))) hV⟩
  refine st 5 rfl (fun b t wx hJ hb hd hcl Kc hK => ?_) ?_
  · obtain ⟨hH, hV⟩ := hJ
    obtain ⟨q1_0, q1_1, q1_2, _⟩ := hH.c3 1 rfl
    go_simp
    apply sk hK
    · rfl
    exact ⟨hH, jD (rp (fun _ => rfl)) hV⟩
  refine st 6 rfl (fun b t wx hJ hb hd hcl Kc hK => ?_) ?_
  · obtain ⟨hH, hV⟩ := hJ
    go_simp
    apply sk hK
    · rfl
    exact ⟨hH, jD (jA (rp (fun _ => rfl))) hV⟩
  refine st 7 rfl (fun b t wx hJ hb hd hcl Kc hK => ?_) ?_
  · obtain ⟨hH, hV⟩ := hJ
    have d5 := so hd 5; have r5 := hV.2.2.2.2.2.1 d5; have q0_4 := hH.cl 0 4 rfl rfl
    go_simp
    apply sk hK
    · (try simp only [r5]); rfl
    exact ⟨hH, jD (jB (rp (fun _ => rfl))) hV⟩
  refine st 8 rfl (fun b t wx hJ hb hd hcl Kc hK => ?_) ?_
  · obtain ⟨hH, hV⟩ := hJ
    have d3 := so hd 3; have d4 := so hd 4; have d6 := so hd 6; have r3 := hV.2.2.2.1 d3; have r4 := hV.2.2.2.2.1 d4; have r6 := hV.2.2.2.2.2.2.1 d6
    have hN := hH; (try simp only [hb, d3, d4, d6, cond_true, cond_false] at hN)
    go_simp
    go_at_call 62
    refine (sumLabels_any HR.out HI.out op _ _ _ (hVt.ext hH.ext) (hO.ext hH.ext)).mono ?_; rintro e7 w7 ⟨v7, rfl, o7, h7⟩
    obtain ⟨pa1, na1, ca1, pa2, na2, ca2, pa3, na3, ca3, rfl⟩ := o7.shape
    (try go_simp)
    apply sk hK
    · (try simp only [r3, r4, r6]); rfl
    exact ⟨by have hX := hN.addT 3 h7 o7 (Nat.le_refl _); simpa only [List.set_cons_zero, List.set_cons_succ, updB, updV, blkOf_mk, tup0_mk, partsOf3, Nat.reduceBEq, cond_true, cond_false, hb, d3, d4, d6, r3, r4, r6] using hX, jD (jB (jA (rp (fun _ => ⟨_, _, _, _, _, _, _, _, _, rfl⟩)))) hV⟩
  refine st 9 rfl (fun b t wx hJ hb hd hcl Kc hK => ?_) ?_
  · obtain ⟨hH, hV⟩ := hJ
    go_simp
    apply sk hK
    · rfl
    exact ⟨hH, jD (jD (rp (fun _ => rfl))) hV⟩
  refine st 10 rfl (fun b t wx hJ hb hd hcl Kc hK => ?_) ?_
  · obtain ⟨hH, hV⟩ := hJ
    have d8 := so hd 8; have r8 := hV.2.2.2.2.2.2.2.2.1 d8; have q0_4 := hH.cl 0 4 rfl rfl
    go_simp
    apply sk hK
    · (try simp only [r8]); rfl
    exact ⟨hH, jD (jD (jA (rp (fun _ => rfl)))) hV⟩
  refine st 11 rfl (fun b t wx hJ hb hd hcl Kc hK => ?_) ?_
  · obtain ⟨hH, v0, v1, v2, v3, v4, v5, v6, v7, v8, v9, v10, v11, v12, v14⟩ := hJ
    have d1 := so hd 1; have d7 := so hd 7; have d9 := so hd 9
    have n11 : b 11 = false := nf hb fun h => sc hcl 11 10 (h)
    have r1 := v1 d1; have r7 := v7 d7; have r9 := v9 d9
    obtain ⟨p1_7, n1_7, c1_7, p2_7, n2_7, c2_7, p3_7, n3_7, c3_7, r7⟩ := r7
    have hN := hH; (try simp only [hb, d1, d7, d9, n11, cond_true, cond_false] at hN)
    rw [r7] at hN -- d7
    go_simp
    go_at_call 61
    refine (permuteTensor_any HR.out HSM.out HPM.out _ _ _ (hN.tens (k := 3) rfl) (hO.ext hH.ext)).mono ?_; rintro e10 w10 ⟨v10, rfl, o10, h10⟩
    rw [HFX.out] at o10
    obtain ⟨pb1, nb1, cb1, pb2, nb2, cb2, pb3, nb3, cb3, rfl⟩ := o10.shape
    (try go_simp)
    apply sk hK
    · (try simp only [r1, r7, r9]); rfl
    exact ⟨by have hX := hN.addT 4 h10 o10 (Nat.le_refl _); simpa only [List.set_cons_zero, List.set_cons_succ, updB, updV, blkOf_mk, tup0_mk, partsOf3, Nat.reduceBEq, cond_true, cond_false, hb, d1, d7, d9, n11, r1, r7, r9] using hX, v0, v1, v2, v3, v4, v5, v6, v7, v8, v9, fun _ => ⟨_, _, _, _, _, _, _, _, _, rfl⟩, ab n11, v12, v14⟩
  refine st 12 rfl (fun b t wx hJ hb hd hcl Kc hK => ?_) ?_
  · obtain ⟨hH, hV⟩ := hJ
    have d10 := so hd 10
    have n13 : b 13 = false := nf hb fun h => sc hcl 13 11 (h)
    have r10 := hV.2.2.2.2.2.2.2.2.2.2.1 d10
    obtain ⟨p1_10, n1_10, c1_10, p2_10, n2_10, c2_10, p3_10, n3_10, c3_10, r10⟩ := r10
    have hN := hH; (try simp only [hb, d10, n13, cond_true, cond_false] at hN)
    have e10 := r10 -- d10
    go_simp
    apply sk hK
    · (try simp only [r10]); rfl
    exact ⟨by have hX := hN; simpa only [List.set_cons_zero, List.set_cons_succ, updB, updV, blkOf_mk, tup0_mk, partsOf3, Nat.reduceBEq, cond_true, cond_false, hb, d10, n13, r10] using hX, jD (jD (jB (jA (rp (fun _ => (by show _ = tup0 (t 10); rw [r10]; rfl)))))) hV⟩
  refine st 13 rfl (fun b t wx hJ hb hd hcl Kc hK => ?_) ?_
  · obtain ⟨hH, hV⟩ := hJ
    have d10 := so hd 10; have r10 := hV.2.2.2.2.2.2.2.2.2.2.1 d10
    obtain ⟨p1_10, n1_10, c1_10, p2_10, n2_10, c2_10, p3_10, n3_10, c3_10, r10⟩ := r10
    have e10 := r10 -- d10
    go_simp
    apply sk hK
    · (try simp only [r10]); rfl
    exact ⟨hH, jD (jD (jD (rp (fun _ => rfl)))) hV⟩
  refine st 14 rfl (fun b t wx hJ hb hd hcl Kc hK => ?_) ?_
  · obtain ⟨hH, hV⟩ := hJ
    have d0 := so hd 0; have d1 := so hd 1; have d2 := so hd 2; have d3 := so hd 3; have d4 := so hd 4; have d5 := so hd 5; have d6 := so hd 6; have d7 := so hd 7; have d8 := so hd 8; have d9 := so hd 9; have d10 := so hd 10; have d11 := so hd 11; have d12 := so hd 12; have r0 := hV.1 d0; have r1 := hV.2.1 d1; have r2 := hV.2.2.1 d2; have r3 := hV.2.2.2.1 d3; have r4 := hV.2.2.2.2.1 d4; have r5 := hV.2.2.2.2.2.1 d5; have r6 := hV.2.2.2.2.2.2.1 d6; have r7 := hV.2.2.2.2.2.2.2.1 d7; have r8 := hV.2.2.2.2.2.2.2.2.1 d8; have r9 := hV.2.2.2.2.2.2.2.2.2.1 d9; have r10 := hV.2.2.2.2.2.2.2.2.2.2.1 d10; have r11 := hV.2.2.2.2.2.2.2.2.2.2.2.1 d11; have r12 := hV.2.2.2.2.2.2.2.2.2.2.2.2.1 d12
    obtain ⟨p1_7, n1_7, c1_7, p2_7, n2_7, c2_7, p3_7, n3_7, c3_7, r7⟩ := r7
    obtain ⟨p1_10, n1_10, c1_10, p2_10, n2_10, c2_10, p3_10, n3_10, c3_10, r10⟩ := r10
    have hN := hH; (try simp only [hb, d0, d1, d2, d3, d4, d5, d6, d7, d8, d9, d10, d11, d12, cond_true, cond_false] at hN)
    rw [r10, tup0_mk] at r11 -- d10 d11
    have B := hN.blk (k := 2) rfl
    have f0 := B.free 0; have f1 := B.free 1; have f2 := B.free 2; have z0 := B.cell (j := 0) rfl; have z1 := B.cell (j := 1) rfl; have z2 := B.cell (j := 2) rfl; have lB := B.lt; have hmk0 := @tup0_mk
    go_simp
    refine hK.out _ undef _ ?_ ?_; rotate_left 1
    · (try simp only [r0, r1, r2, r3, r4, r5, r6, r7, r8, r9, r10, r11, r12]); rfl
    exact ⟨by have hX := hN.setB3' (k := 2) rfl (.slice p1_10 n1_10 c1_10) (.slice p2_10 n2_10 c2_10) (.slice p3_10 n3_10 c3_10); simpa only [List.set_cons_zero, List.set_cons_succ, updB, updV, blkOf_mk, tup0_mk, partsOf3, Nat.reduceBEq, cond_true, cond_false, hb, d0, d1, d2, d3, d4, d5, d6, d7, d8, d9, d10, d11, d12, r0, r1, r2, r3, r4, r5, r6, r7, r8, r9, r10, r11, r12] using hX, hV⟩
  refine st 15 rfl (fun b t wx hJ hb hd hcl Kc hK => ?_) ?_
  · obtain ⟨hH, hV⟩ := hJ
    have d0 := so hd 0; have d1 := so hd 1; have d2 := so hd 2; have d3 := so hd 3; have d4 := so hd 4; have d5 := so hd 5; have d6 := so hd 6; have d7 := so hd 7; have d8 := so hd 8; have d9 := so hd 9; have d10 := so hd 10; have d11 := so hd 11; have d12 := so hd 12; have d13 := so hd 13; have r0 := hV.1 d0; have r1 := hV.2.1 d1; have r2 := hV.2.2.1 d2; have r3 := hV.2.2.2.1 d3; have r4 := hV.2.2.2.2.1 d4; have r5 := hV.2.2.2.2.2.1 d5; have r6 := hV.2.2.2.2.2.2.1 d6; have r7 := hV.2.2.2.2.2.2.2.1 d7; have r8 := hV.2.2.2.2.2.2.2.2.1 d8; have r9 := hV.2.2.2.2.2.2.2.2.2.1 d9; have r10 := hV.2.2.2.2.2.2.2.2.2.2.1 d10; have r11 := hV.2.2.2.2.2.2.2.2.2.2.2.1 d11; have r12 := hV.2.2.2.2.2.2.2.2.2.2.2.2.1 d12
    obtain ⟨p1_7, n1_7, c1_7, p2_7, n2_7, c2_7, p3_7, n3_7, c3_7, r7⟩ := r7
    obtain ⟨p1_10, n1_10, c1_10, p2_10, n2_10, c2_10, p3_10, n3_10, c3_10, r10⟩ := r10
    go_simp
    apply sk hK
    · (try simp only [r0, r1, r2, r3, r4, r5, r6, r7, r8, r9, r10, r11, r12]); rfl
    exact ⟨hH, jD (jD (jD (jA (fun _ => fun _ => rfl)))) hV⟩
  exact AllSteps.nil
 intro b t wa hJ hall
 obtain ⟨hHa, v0, v1, v2, v3, v4, v5, v6, v7, v8, v9, v10, v11, v12, v14⟩ := hJ
 have a0 := hall 0 (by decide); have a1 := hall 1 (by decide); have a2 := hall 2 (by decide); have a3 := hall 3 (by decide); have a4 := hall 4 (by decide); have a5 := hall 5 (by decide); have a6 := hall 6 (by decide); have a7 := hall 7 (by decide); have a8 := hall 8 (by decide); have a9 := hall 9 (by decide); have a10 := hall 10 (by decide); have a11 := hall 11 (by decide); have a12 := hall 12 (by decide); have a13 := hall 13 (by decide); have a14 := hall 14 (by decide)
 (try simp only [a0, a1, a2, a3, a4, a5, a6, a7, a8, a9, a10, a11, a12, a13, a14, cond_true] at hHa)
 replace v0 := v0 a0; replace v1 := v1 a1; replace v2 := v2 a2; replace v3 := v3 a3; replace v4 := v4 a4; replace v5 := v5 a5; replace v6 := v6 a6; replace v7 := v7 a7; replace v8 := v8 a8; replace v9 := v9 a9; replace v10 := v10 a10; replace v11 := v11 a11; replace v12 := v12 a12; replace v14 := v14 a14
 clear hall a0 a1 a2 a3 a4 a5 a6 a7 a8 a9 a10 a11 a12 a13 a14
 generalize t 14 = x14 at hHa v14 ⊢; generalize t 12 = x12 at hHa v12 ⊢; generalize t 11 = x11 at hHa v11 ⊢; generalize t 10 = x10 at hHa v10 v11 ⊢; generalize t 9 = x9 at hHa v9 ⊢; generalize t 8 = x8 at hHa v8 ⊢; generalize t 7 = x7 at hHa v7 ⊢; generalize t 6 = x6 at hHa v6 ⊢; generalize t 5 = x5 at hHa v5 ⊢; generalize t 4 = x4 at hHa v4 ⊢; generalize t 3 = x3 at hHa v3 ⊢; generalize t 2 = x2 at hHa v2 ⊢; generalize t 1 = x1 at hHa v1 ⊢; generalize t 0 = x0 at hHa v0 ⊢; subst v0; subst v1; subst v2; subst v3; subst v4; subst v5; subst v6
 obtain ⟨p1a7, n1a7, c1a7, p2a7, n2a7, c2a7, p3a7, n3a7, c3a7, rfl⟩ := v7
 subst v8; subst v9
 obtain ⟨p1a10, n1a10, c1a10, p2a10, n2a10, c2a10, p3a10, n3a10, c3a10, rfl⟩ := v10
 subst v11; subst v12; subst v14
 simp only [blkOf_mk, tup0_mk, partsOf3] at hHa
 clear b
 replace hH := hHa; clear hHa
 replace hH : Held w wa [nB w.heap.size k p n aV m cV aO op.length cO, tB (w.heap.size + 1) g1 m1 i1 g2 m2 i2 g3 m3 i3, tB (w.heap.size + 1 + 1) p1a10 n1a10 c1a10 p2a10 n2a10 c2a10 p3a10 n3a10 c3a10, aT (.agg #[.slice p1a7 n1a7 c1a7, .slice p2a7 n2a7 c2a7, .slice p3a7 n3a7 c3a7]) (keepL tL op) ((keepL tL op).map dm) (flat (sumXs hr dm tL op ys)), aT (.agg #[.slice p1a10 n1a10 c1a10, .slice p2a10 n2a10 c2a10, .slice p3a10 n3a10 c3a10]) op (op.map dm) (flat FX)] := hH
 obtain ⟨q0_0, q0_1, q0_2, q0_3, q0_4, l0_⟩ := hH.c5 0 rfl; obtain ⟨q1_0, q1_1, q1_2, l1_⟩ := hH.c3 1 rfl; obtain ⟨q2_0, q2_1, q2_2, l2_⟩ := hH.c3 2 rfl
 go_wp2_with fail
 refine bodyPost_ret (v := .tuple #[.agg #[.slice p1a10 n1a10 c1a10, .slice p2a10 n2a10 c2a10, .slice p3a10 n3a10 c3a10], .bool true]) (by simp [results, Tryz.results27, go_sem, *]) rfl ?_
 exact ⟨_, rfl, hH.ownT (k := 4) rfl, hH.ext⟩
theorem HeldX.swap2 {ex : Option Nat} {a w : World} {A B : Asn} (h : HeldX ex a w [A, B]) : HeldX ex a w [B, A] := h.perm (List.Perm.swap _ _ _)
theorem copyNetwork_any {k p n : Int} (hr : ringOk k p n = true) {dm : Int → Int} {U : List Int} {ts : List (NT k p n)} {op : List Int} (hN : IsN k p n dm U ts op) (tv ov : Value) (w : World) (hT : TensS w tv (ts.map (tenOf dm))) (hO : IntS w ov op) :
 Calls Tryz.prog 76 #[.agg #[.int .i64 k, .int .i64 p, .int .i64 n, tv, ov]] w fun e w' => ∃ tv' ov' cs, e = .returned (.agg #[.int .i64 k, .int .i64 p, .int .i64 n, tv', ov']) ∧
  Held w w' [aTs tv' cs (ts.map (tenOf dm)), aI ov' op] := by
 obtain ⟨m, aV, cV, aO, cO, rfl, rfl, hcT1, hcT2, hcO1, hcO2, hm12, hop12, HM, HD3, hTl⟩ := net_in hN hT hO
 have hT0 := hT; have hO0 := hO; have HR := Lib.hid hr; have HN := Lib.hid hN; clear hr hN; try rw [HM.out]
 go_enter Tryz.func76, Tryz.ntmps76
 go_upto_region 1 with fail
 have hH : Held w w [] := Held.new (Ext.refl w) 0
 obtain ⟨hB, hsz⟩ := hH.laid #[.int .i64 k, .int .i64 p, .int .i64 n, .slice aV m cV, .slice aO op.length cO] 29
 generalize w.alloc (.cells #[.int .i64 k, .int .i64 p, .int .i64 n, .slice aV m cV, .slice aO op.length cO] 29) = wn1 at hB hsz ⊢
 replace hH : Held w wn1 [nB w.heap.size k p n aV m cV aO op.length cO] := hB
 have HSZwn1 := Lib.hid (show wn1.heap.size = w.heap.size + 1 by rw [hsz]); clear hB hsz
 obtain ⟨hB, hsz⟩ := hH.laid #[.int .i64 0, .int .i64 0, .int .i64 0, .slice none 0 0, .slice none 0 0] 29
 generalize wn1.alloc (.cells #[.int .i64 0, .int .i64 0, .int .i64 0, .slice none 0 0, .slice none 0 0] 29) = wn2 at hB hsz ⊢
 replace hH : Held w wn2 [nB w.heap.size k p n aV m cV aO op.length cO, aB (w.heap.size + 1) 29 [.int .i64 0, .int .i64 0, .int .i64 0, .slice none 0 0, .slice none 0 0]] := by rw [HSZwn1.out] at hB; exact hB
 have HSZwn2 := Lib.hid (show wn2.heap.size = w.heap.size + 1 + 1 by rw [hsz, HSZwn1.out]); clear hB hsz
 replace hH := hH.mores 2
 replace hH : Held w wn2 [nB w.heap.size k p n aV m cV aO op.length cO, aB (w.heap.size + 1) 29 [.int .i64 0, .int .i64 0, .int .i64 0, .slice none 0 0, .slice none 0 0], emp, emp] := hH
 refine wp_region_steps ?Fc (fun b t wx => Held w wx [nB w.heap.size k p n aV m cV aO op.length cO, aB (w.heap.size + 1) 29 [.int .i64 0, .int .i64 0, .int .i64 0, .slice none 0 0, .slice none 0 0], (bif b 4 then aI (t 4) op else emp), (bif b 7 then aB (blkOf (t 6)) 29 (partsN (t 5)) else (bif b 6 then aB (blkOf (t 6)) 29 [.int .i64 0, .int .i64 0, .int .i64 0, .slice none 0 0, .slice none 0 0] else emp))] ∧ (b 0 = true → t 0 = .pointer (some ⟨w.heap.size, 0, none⟩)) ∧ (b 1 = true → t 1 = .agg #[.int .i64 k, .int .i64 p, .int .i64 n]) ∧ (b 2 = true → t 2 = .pointer (some ⟨w.heap.size, 4, none⟩)) ∧ (b 3 = true → t 3 = .slice aO op.length cO) ∧ (b 4 = true → ∃ x c, t 4 = .slice x op.length c) ∧ (b 5 = true → t 5 = .agg #[.int .i64 k, .int .i64 p, .int .i64 n, .slice none 0 0, t 4]) ∧ (b 6 = true → ∃ q, t 6 = .pointer (some ⟨q, 0, none⟩))) ?hFc (by kernel_rfl) (by kernel_rfl) ?hJc ?hSc ?hEc
 (case hFc => intro t; simp only [putAll, Act.put, List.setIfInBounds_toArray, List.set_cons_zero, List.set_cons_succ, Nat.reduceAdd, Nat.zero_add]; exact rfl)
 case hJc => exact ⟨hH.grow ((Ext.refl _).drew), nof, nof, nof, nof, nof, nof, nof⟩
 case hSc => as_aux_lemma =>
  refine st 1 rfl (fun b t wx hJ hb hd hcl Kc hK => ?_) ?_
  · obtain ⟨hH, hV⟩ := hJ
    go_simp
    apply sk hK
    · rfl
    exact ⟨hH, rp (fun _ => rfl) hV⟩
  refine st 2 rfl (fun b t wx hJ hb hd hcl Kc hK => ?_) ?_
  · obtain ⟨hH, hV⟩ := hJ
    have d0 := so hd 0; have r0 := hV.1 d0; obtain ⟨q0_0, q0_1, q0_2, _⟩ := hH.c3 0 rfl
    go_simp
    apply sk hK
    · (try simp only [r0]); rfl
    exact ⟨hH, jA (rp (fun _ => rfl)) hV⟩
  refine st 3 rfl (fun b t wx hJ hb hd hcl Kc hK => ?_) ?_
  · obtain ⟨hH, hV⟩ := hJ
    go_simp
    apply sk hK
    · rfl
    exact ⟨hH, jB (rp (fun _ => rfl)) hV⟩
  refine st 4 rfl (fun b t wx hJ hb hd hcl Kc hK => ?_) ?_
  · obtain ⟨hH, hV⟩ := hJ
    have d2 := so hd 2; have r2 := hV.2.2.1 d2; have q0_4 := hH.cl 0 4 rfl rfl
    go_simp
    apply sk hK
    · (try simp only [r2]); rfl
    exact ⟨hH, jB (jA (rp (fun _ => rfl))) hV⟩
  refine st 5 rfl (fun b t wx hJ hb hd hcl Kc hK => ?_) ?_
  · obtain ⟨hH, v0, v1, v2, v3, v4, v5, v6⟩ := hJ
    have d3 := so hd 3
    have n5 : b 5 = false := nf hb fun h => sc hcl 5 4 (h)
    have r3 := v3 d3
    have hN := hH; (try simp only [hb, d3, n5, cond_true, cond_false] at hN)
    go_simp
    go_at_call 58
    refine (copyInts_any _ op _ (hO.ext hH.ext) (by omega)).mono ?_; rintro e4 w4 ⟨v4, rfl, o4, h4⟩
    obtain ⟨x4, c4, rfl, _, _⟩ := o4.ints.val
    (try go_simp)
    apply sk hK
    · (try simp only [r3]); rfl
    exact ⟨by have hX := hN.addI 2 h4 o4 (Nat.le_refl _); simpa only [List.set_cons_zero, List.set_cons_succ, updB, updV, blkOf_mk, tup0_mk, partsOf3, partsN_mk, Nat.reduceBEq, cond_true, cond_false, hb, d3, n5, r3] using hX, v0, v1, v2, v3, fun _ => ⟨_, _, rfl⟩, ab n5, v6⟩
  refine st 6 rfl (fun b t wx hJ hb hd hcl Kc hK => ?_) ?_
  · obtain ⟨hH, hV⟩ := hJ
    have d1 := so hd 1; have d4 := so hd 4
    have n7 : b 7 = false := nf hb fun h => sc hcl 7 5 (h)
    have r1 := hV.2.1 d1; have r4 := hV.2.2.2.2.1 d4
    obtain ⟨x_4, c_4, r4⟩ := r4
    have hN := hH; (try simp only [hb, d1, d4, n7, cond_true, cond_false] at hN)
    have e4 := r4 -- d4
    go_simp
    apply sk hK
    · (try simp only [r1, r4]); rfl
    exact ⟨by have hX := hN; simpa only [List.set_cons_zero, List.set_cons_succ, updB, updV, blkOf_mk, tup0_mk, partsOf3, partsN_mk, Nat.reduceBEq, cond_true, cond_false, hb, d1, d4, n7, r1, r4] using hX, jD (jA (rp (fun _ => (by show Value.agg _ = Value.agg #[_, _, _, _, t 4]; rw [r4])))) hV⟩
  refine st 7 rfl (fun b t wx hJ hb hd hcl Kc hK => ?_) ?_
  · obtain ⟨hH, hV⟩ := hJ
    have n7 : b 7 = false := nf hb fun h => sc hcl 7 6 (h)
    have hN := hH; (try simp only [hb, n7, cond_true, cond_false] at hN)
    go_simp
    apply sk hK
    · rfl
    exact ⟨by have hX := hN.addB 3 #[.int .i64 0, .int .i64 0, .int .i64 0, .slice none 0 0, .slice none 0 0] 29; simpa only [List.set_cons_zero, List.set_cons_succ, updB, updV, blkOf_mk, tup0_mk, partsOf3, partsN_mk, Nat.reduceBEq, cond_true, cond_false, hb, n7] using hX, jD (jB (fun _ => fun _ => ⟨_, rfl⟩)) hV⟩
  refine st 8 rfl (fun b t wx hJ hb hd hcl Kc hK => ?_) ?_
  · obtain ⟨hH, hV⟩ := hJ
    have d0 := so hd 0; have d1 := so hd 1; have d2 := so hd 2; have d3 := so hd 3; have d4 := so hd 4; have d5 := so hd 5; have d6 := so hd 6; have r0 := hV.1 d0; have r1 := hV.2.1 d1; have r2 := hV.2.2.1 d2; have r3 := hV.2.2.2.1 d3; have r4 := hV.2.2.2.2.1 d4; have r5 := hV.2.2.2.2.2.1 d5; have r6 := hV.2.2.2.2.2.2 d6
    obtain ⟨x_4, c_4, r4⟩ := r4
    obtain ⟨q_6, r6⟩ := r6
    have hN := hH; (try simp only [hb, d0, d1, d2, d3, d4, d5, d6, cond_true, cond_false] at hN)
    rw [r4] at r5 -- d4 d5
    simp only [r6, r5, blkOf_mk, tup0_mk, partsN_mk] at hN
    have B := hN.blk (k := 3) rfl
    have f0 := B.free 0; have z0 := B.cell (j := 0) rfl
    have f1 := B.free 1; have z1 := B.cell (j := 1) rfl
    have f2 := B.free 2; have z2 := B.cell (j := 2) rfl
    have f3 := B.free 3; have z3 := B.cell (j := 3) rfl
    have f4 := B.free 4; have z4 := B.cell (j := 4) rfl
    have lB := B.lt; have hmk0 := @tup0_mk
    go_simp
    refine hK.out _ undef _ ?_ ?_; rotate_left 1
    · (try simp only [r0, r1, r2, r3, r4, r5, r6]); rfl
    exact ⟨by have hX := hN.setB5 (k := 3) rfl (.int .i64 k) (.int .i64 p) (.int .i64 n) (.slice none 0 0) (.slice x_4 op.length c_4); simpa only [List.set_cons_zero, List.set_cons_succ, updB, updV, blkOf_mk, tup0_mk, partsOf3, partsN_mk, Nat.reduceBEq, cond_true, cond_false, hb, d0, d1, d2, d3, d4, d5, d6, r0, r1, r2, r3, r4, r5, r6] using hX, hV⟩
  exact AllSteps.nil
 intro b t wc hJ hall
 obtain ⟨hHc, v0, v1, v2, v3, v4, v5, v6⟩ := hJ
 have a0 := hall 0 (by decide); have a1 := hall 1 (by decide); have a2 := hall 2 (by decide); have a3 := hall 3 (by decide); have a4 := hall 4 (by decide); have a5 := hall 5 (by decide); have a6 := hall 6 (by decide); have a7 := hall 7 (by decide)
 (try simp only [a0, a1, a2, a3, a4, a5, a6, a7, cond_true] at hHc)
 replace v0 := v0 a0; replace v1 := v1 a1; replace v2 := v2 a2; replace v3 := v3 a3; replace v4 := v4 a4; replace v5 := v5 a5; replace v6 := v6 a6
 clear hall a0 a1 a2 a3 a4 a5 a6 a7
 generalize t 6 = x6 at hHc v6 ⊢; generalize t 5 = x5 at hHc v5 ⊢; generalize t 4 = x4 at hHc v4 v5 ⊢; generalize t 3 = x3 at hHc v3 ⊢; generalize t 2 = x2 at hHc v2 ⊢; generalize t 1 = x1 at hHc v1 ⊢; generalize t 0 = x0 at hHc v0 ⊢; subst v0; subst v1; subst v2; subst v3
 obtain ⟨xc4, cc4, rfl⟩ := v4
 subst v5
 obtain ⟨qc6, rfl⟩ := v6
 simp only [blkOf_mk, tup0_mk, partsOf3, partsN_mk] at hHc
 clear b
 replace hH := hHc; clear hHc
 replace hH : Held w wc [nB w.heap.size k p n aV m cV aO op.length cO, aB (w.heap.size + 1) 29 [.int .i64 0, .int .i64 0, .int .i64 0, .slice none 0 0, .slice none 0 0], aI (.slice xc4 op.length cc4) op, nB qc6 k p n none 0 0 xc4 op.length cc4] := hH
 replace hH := hH.nilTs
 replace hH : Held w wc [nB w.heap.size k p n aV m cV aO op.length cO, aB (w.heap.size + 1) 29 [.int .i64 0, .int .i64 0, .int .i64 0, .slice none 0 0, .slice none 0 0], aI (.slice xc4 op.length cc4) op, nB qc6 k p n none 0 0 xc4 op.length cc4, aTs (.slice none 0 0) [] []] := hH
 obtain ⟨q0_0, q0_1, q0_2, q0_3, q0_4, l0_⟩ := hH.c5 0 rfl; obtain ⟨q1_0, q1_1, q1_2, q1_3, q1_4, l1_⟩ := hH.c5 1 rfl; obtain ⟨q3_0, q3_1, q3_2, q3_3, q3_4, l3_⟩ := hH.c5 3 rfl
 go_wp2_with fail
 clear q0_0 q0_1 q0_2 q0_3 q0_4 l0_ q1_0 q1_1 q1_2 q1_3 q1_4 l1_ q3_0 q3_1 q3_2 q3_3 q3_4 l3_
 obtain ⟨wa, rfl⟩ : ∃ q, q = wc := ⟨wc, rfl⟩
 go_loopw [15] (fun i wr => ∃ (j : Nat) (tv : Value) (cs : List (Value × Value × Value)), j ≤ m ∧ i = .int .i64 (j : Int) ∧ Held w wr [nB w.heap.size k p n aV m cV aO op.length cO, aB (w.heap.size + 1) 29 [.int .i64 0, .int .i64 0, .int .i64 0, .slice none 0 0, .slice none 0 0], aI (.slice xc4 op.length cc4) op, aB qc6 29 [.int .i64 k, .int .i64 p, .int .i64 n, tv, .slice xc4 op.length cc4], aTs (tv) cs ((ts.take j).map (tenOf dm))]) (fun i wr => m - (RowKit.intOf i).toNat)
 case atStart => exact ⟨0, _, _, Nat.zero_le _, rfl, hH⟩
 clear hH
 obtain ⟨j, tv, cs, hj, rfl, hH⟩ := hrel
 obtain ⟨QS, hQS⟩ : ∃ q, (ts.take j).map (tenOf dm) = q := ⟨_, rfl⟩
 rw [hQS] at hH
 have hql : QS.length = j := by rw [← hQS, List.length_map, List.length_take, HM.out]; omega
 have HQL := Lib.hid hql; have HQS := Lib.hid hQS; clear hql hQS
 obtain ⟨aS, cS, rfl, _, _⟩ := (hH.tensS (k := 4) rfl).val
 rw [HQL.out] at hH
 obtain ⟨wq, rfl⟩ : ∃ q, q = wr := ⟨wr, rfl⟩
 by_cases hlt : j < m
 ·
  obtain ⟨bT, oT, tl, xs, e1, f1, e2, f2, e3, m3, f3, hV, HTJ, HTI, hu0, hu1, hu2, hTu, hTL, hTD, hTX, _, _, _, _⟩ := hT.ten HN.out.ten (j := j) (by rw [hTl.out]; exact hlt); subst hV
  have HMS := Lib.hid (show (ts.take (j + 1)).map (tenOf dm) = QS ++ [(tl, tl.map dm, flat xs)] by rw [List.take_add_one, HTJ.out, List.map_append, HQS.out]; rfl)
  have hxl := HTI.out.flatLen HR.out; have hrk : tl.length ≤ 12 := HTI.out.ax.rank; have HXL := Lib.hid hxl; clear hxl
  obtain ⟨q0_0, q0_1, q0_2, q0_3, q0_4, l0_⟩ := hH.c5 0 rfl; obtain ⟨q1_0, q1_1, q1_2, q1_3, q1_4, l1_⟩ := hH.c5 1 rfl; obtain ⟨q3_0, q3_1, q3_2, q3_3, q3_4, l3_⟩ := hH.c5 3 rfl; have c_hu0 := hH.ext.cell hu0; have c_hu1 := hH.ext.cell hu1; have c_hu2 := hH.ext.cell hu2
  go_upto_region 5 with fail
  clear q0_0 q0_1 q0_2 q0_3 q0_4 l0_ q1_0 q1_1 q1_2 q1_3 q1_4 l1_ q3_0 q3_1 q3_2 q3_3 q3_4 l3_ c_hu0 c_hu1 c_hu2
  obtain ⟨hB, hsz⟩ := hH.laid #[.slice e1 tl.length f1, .slice e2 tl.length f2, .slice e3 m3 f3] 35
  generalize wq.alloc (.cells #[.slice e1 tl.length f1, .slice e2 tl.length f2, .slice e3 m3 f3] 35) = wn3 at hB hsz ⊢
  replace hH : Held w wn3 [nB w.heap.size k p n (some ⟨bT, oT, none⟩) m cV aO op.length cO, aB (w.heap.size + 1) 29 [.int .i64 0, .int .i64 0, .int .i64 0, .slice none 0 0, .slice none 0 0], aI (.slice xc4 op.length cc4) op, nB qc6 k p n aS j cS xc4 op.length cc4, aTs (.slice aS j cS) cs QS, tB wq.heap.size e1 tl.length f1 e2 tl.length f2 e3 m3 f3] := hB
  have HSZwn3 := Lib.hid (show wn3.heap.size = wq.heap.size + 1 by rw [hsz]); clear hB hsz
  replace hH := hH.mores 2
  replace hH : Held w wn3 [nB w.heap.size k p n (some ⟨bT, oT, none⟩) m cV aO op.length cO, aB (w.heap.size + 1) 29 [.int .i64 0, .int .i64 0, .int .i64 0, .slice none 0 0, .slice none 0 0], aI (.slice xc4 op.length cc4) op, nB qc6 k p n aS j cS xc4 op.length cc4, aTs (.slice aS j cS) cs QS, tB wq.heap.size e1 tl.length f1 e2 tl.length f2 e3 m3 f3, emp, emp] := hH
  refine wp_region_steps ?Fa (fun b t wx => Held w wx [nB w.heap.size k p n (some ⟨bT, oT, none⟩) m cV aO op.length cO, aB (w.heap.size + 1) 29 [.int .i64 0, .int .i64 0, .int .i64 0, .slice none 0 0, .slice none 0 0], aI (.slice xc4 op.length cc4) op, (bif b 7 then aB qc6 29 [.int .i64 k, .int .i64 p, .int .i64 n, t 5, .slice xc4 op.length cc4] else nB qc6 k p n aS j cS xc4 op.length cc4), (bif b 5 then aTs (t 5) (cs ++ [cel3 (t 3)]) (QS ++ [(tl, (tl.map dm), (flat xs))]) else aTs (.slice aS j cS) cs QS), tB wq.heap.size e1 tl.length f1 e2 tl.length f2 e3 m3 f3, (bif b 5 then emp else (bif b 3 then aT (t 3) tl (tl.map dm) (flat xs) else emp)), (bif b 4 then aB (blkS (t 4)) 35 (partsOf (t 3)) else emp)] ∧ (b 0 = true → t 0 = .pointer (some ⟨qc6, 3, none⟩)) ∧ (b 1 = true → t 1 = .slice aS j cS) ∧ (b 2 = true → t 2 = .agg #[.slice e1 tl.length f1, .slice e2 tl.length f2, .slice e3 m3 f3]) ∧ (b 3 = true → ∃ p1 n1 c1 p2 n2 c2 p3 n3 c3, t 3 = .agg #[.slice p1 n1 c1, .slice p2 n2 c2, .slice p3 n3 c3]) ∧ (b 4 = true → ∃ z, t 4 = .slice (some ⟨z, 0, none⟩) 1 1) ∧ (b 5 = true → ∃ a c, t 5 = .slice a (j + 1) c) ∧ (b 6 = true → t 6 = .pointer (some ⟨qc6, 3, none⟩))) ?hFa (by kernel_rfl) (by kernel_rfl) ?hJa ?hSa ?hEa
  (case hFa => intro t; simp only [putAll, Act.put, List.setIfInBounds_toArray, List.set_cons_zero, List.set_cons_succ, Nat.reduceAdd, Nat.zero_add]; exact rfl)
  case hJa => exact ⟨hH.grow ((Ext.refl _).drew), nof, nof, nof, nof, nof, nof, nof⟩
  case hSa => as_aux_lemma =>
   refine st 1 rfl (fun b t wx hJ hb hd hcl Kc hK => ?_) ?_
   · obtain ⟨hH, hV⟩ := hJ
     go_simp
     apply sk hK
     · rfl
     exact ⟨hH, rp (fun _ => rfl) hV⟩
   refine st 2 rfl (fun b t wx hJ hb hd hcl Kc hK => ?_) ?_
   · obtain ⟨hH, hV⟩ := hJ
     have d0 := so hd 0
     have n7 : b 7 = false := nf hb fun h => sc hcl 7 1 (h)
     have r0 := hV.1 d0
     have hN := hH; (try simp only [hb, d0, n7, cond_true, cond_false] at hN)
     have q3_3 := hN.cl 3 3 rfl rfl
     go_simp
     apply sk hK
     · (try simp only [r0]); rfl
     exact ⟨hH, jA (rp (fun _ => rfl)) hV⟩
   refine st 3 rfl (fun b t wx hJ hb hd hcl Kc hK => ?_) ?_
   · obtain ⟨hH, hV⟩ := hJ
     obtain ⟨q5_0, q5_1, q5_2, _⟩ := hH.c3 5 rfl
     go_simp
     apply sk hK
     · rfl
     exact ⟨hH, jB (rp (fun _ => rfl)) hV⟩
   refine st 4 rfl (fun b t wx hJ hb hd hcl Kc hK => ?_) ?_
   · obtain ⟨hH, hV⟩ := hJ
     have d2 := so hd 2
     have n4 : b 4 = false := nf hb fun h => sc hcl 4 3 (h)
     have n5 : b 5 = false := nf hb fun h => sc hcl 5 3 (h)
     have r2 := hV.2.2.1 d2
     have hN := hH; (try simp only [hb, d2, n4, n5, cond_true, cond_false] at hN)
     go_simp
     go_at_call 23
     refine (copyTensor_any _ tl (tl.map dm) (flat xs) _ (hTu.ext hH.ext) (by omega) (by rw [List.length_map]; omega) HXL.out).mono ?_; rintro e3 w3 ⟨vd, rfl, od, h7⟩
     obtain ⟨pa1, na1, ca1, pa2, na2, ca2, pa3, na3, ca3, rfl⟩ := od.shape
     (try go_simp)
     apply sk hK
     · (try simp only [r2]); rfl
     exact ⟨by have hX := hN.addT 6 h7 od (Nat.le_refl _); simpa only [List.set_cons_zero, List.set_cons_succ, updB, updV, blkOf_mk, tup0_mk, partsOf3, blkS_mk, cel3_mk, Nat.reduceBEq, cond_true, cond_false, hb, d2, n4, n5, r2] using hX, jB (jA (rp (fun _ => ⟨_, _, _, _, _, _, _, _, _, rfl⟩))) hV⟩
   refine st 5 rfl (fun b t wx hJ hb hd hcl Kc hK => ?_) ?_
   · obtain ⟨hH, hV⟩ := hJ
     have d3 := so hd 3; have r3 := hV.2.2.2.1 d3
     obtain ⟨p1_3, n1_3, c1_3, p2_3, n2_3, c2_3, p3_3, n3_3, c3_3, r3⟩ := r3
     have hN := hH; (try simp only [hb, d3, cond_true, cond_false] at hN)
     have e3 := r3 -- d3
     go_simp
     apply sk hK
     · (try simp only [r3]); rfl
     exact ⟨by have hX := hN.addB 7 #[.slice p1_3 n1_3 c1_3, .slice p2_3 n2_3 c2_3, .slice p3_3 n3_3 c3_3] 35; simpa only [List.set_cons_zero, List.set_cons_succ, updB, updV, blkOf_mk, tup0_mk, partsOf3, blkS_mk, cel3_mk, Nat.reduceBEq, cond_true, cond_false, hb, d3, r3] using hX, jD (rp (fun _ => ⟨_, rfl⟩)) hV⟩
   refine st 6 rfl (fun b t wx hJ hb hd hcl Kc hK => ?_) ?_
   · obtain ⟨hH, hV⟩ := hJ
     have d1 := so hd 1; have d3 := so hd 3; have d4 := so hd 4
     have n7 : b 7 = false := nf hb fun h => sc hcl 7 5 (h)
     have r1 := hV.2.1 d1; have r3 := hV.2.2.2.1 d3; have r4 := hV.2.2.2.2.1 d4
     obtain ⟨p1_3, n1_3, c1_3, p2_3, n2_3, c2_3, p3_3, n3_3, c3_3, r3⟩ := r3
     obtain ⟨z_4, r4⟩ := r4
     have hN := hH; (try simp only [hb, d1, d3, d4, n7, cond_true, cond_false] at hN)
     rw [r3] at hN -- d3 d4
     refine step_app wx rfl _ _ 26 rfl (.slice aS j cS) (t 4) (by first | rfl | (go_simp; done)) (by first | rfl | (go_simp; done)) _ (run_pushT2 _ hN (k1 := 4) (k2 := 6) rfl rfl (by decide) (by rw [r4]; have h := hN.blk (k := 7) rfl; rw [r4] at h; exact row_blk3 h) ((by rw [HQL.out]; omega))) ?_; rintro va wa ⟨hHa, ga⟩
     obtain ⟨aa, ca, hva, _, _⟩ := (hHa.tensS (k := 4) rfl).val; subst hva
     apply sk hK
     · (try simp only [r1, r3, r4]); rfl
     exact ⟨by have hX := hHa; simpa only [List.set_cons_zero, List.set_cons_succ, updB, updV, blkOf_mk, tup0_mk, partsOf3, blkS_mk, cel3_mk, Nat.reduceBEq, cond_true, cond_false, hb, d1, d3, d4, n7, r1, r3, r4] using hX, jD (jA (rp (fun _ => ⟨_, _, by rw [List.length_append, HQL.out]; rfl⟩))) hV⟩
   refine st 7 rfl (fun b t wx hJ hb hd hcl Kc hK => ?_) ?_
   · obtain ⟨hH, hV⟩ := hJ
     have d0 := so hd 0; have d1 := so hd 1; have d2 := so hd 2; have d3 := so hd 3; have d4 := so hd 4; have d5 := so hd 5; have r0 := hV.1 d0; have r1 := hV.2.1 d1; have r2 := hV.2.2.1 d2; have r3 := hV.2.2.2.1 d3; have r4 := hV.2.2.2.2.1 d4; have r5 := hV.2.2.2.2.2.1 d5
     obtain ⟨p1_3, n1_3, c1_3, p2_3, n2_3, c2_3, p3_3, n3_3, c3_3, r3⟩ := r3
     obtain ⟨z_4, r4⟩ := r4
     obtain ⟨a_5, c_5, r5⟩ := r5
     go_simp
     apply sk hK
     · (try simp only [r0, r1, r2, r3, r4, r5]); rfl
     exact ⟨hH, jD (jB (fun _ => fun _ => rfl)) hV⟩
   refine st 8 rfl (fun b t wx hJ hb hd hcl Kc hK => ?_) ?_
   · obtain ⟨hH, hV⟩ := hJ
     have d0 := so hd 0; have d1 := so hd 1; have d2 := so hd 2; have d3 := so hd 3; have d4 := so hd 4; have d5 := so hd 5; have d6 := so hd 6; have r0 := hV.1 d0; have r1 := hV.2.1 d1; have r2 := hV.2.2.1 d2; have r3 := hV.2.2.2.1 d3; have r4 := hV.2.2.2.2.1 d4; have r5 := hV.2.2.2.2.2.1 d5; have r6 := hV.2.2.2.2.2.2 d6
     obtain ⟨p1_3, n1_3, c1_3, p2_3, n2_3, c2_3, p3_3, n3_3, c3_3, r3⟩ := r3
     obtain ⟨z_4, r4⟩ := r4
     obtain ⟨a_5, c_5, r5⟩ := r5
     have hN := hH; (try simp only [hb, d0, d1, d2, d3, d4, d5, d6, cond_true, cond_false] at hN)
     have B := hN.blk (k := 3) rfl; have fB := B.free 3; have zB := B.cell (j := 3) rfl; have lB := B.lt
     go_simp
     refine hK.out _ undef _ ?_ ?_; rotate_left 1
     · (try simp only [r0, r1, r2, r3, r4, r5, r6]); rfl
     exact ⟨by have hX := hN.setB (k := 3) rfl 3 (t 5); simpa only [List.set_cons_zero, List.set_cons_succ, updB, updV, blkOf_mk, tup0_mk, partsOf3, blkS_mk, cel3_mk, Nat.reduceBEq, cond_true, cond_false, hb, d0, d1, d2, d3, d4, d5, d6, r0, r1, r2, r3, r4, r5, r6] using hX, hV⟩
   exact AllSteps.nil
  intro b t wa hJ hall
  obtain ⟨hHa, v0, v1, v2, v3, v4, v5, v6⟩ := hJ
  have a0 := hall 0 (by decide); have a1 := hall 1 (by decide); have a2 := hall 2 (by decide); have a3 := hall 3 (by decide); have a4 := hall 4 (by decide); have a5 := hall 5 (by decide); have a6 := hall 6 (by decide); have a7 := hall 7 (by decide)
  (try simp only [a0, a1, a2, a3, a4, a5, a6, a7, cond_true] at hHa)
  replace v0 := v0 a0; replace v1 := v1 a1; replace v2 := v2 a2; replace v3 := v3 a3; replace v4 := v4 a4; replace v5 := v5 a5; replace v6 := v6 a6
  clear hall a0 a1 a2 a3 a4 a5 a6 a7
  generalize t 6 = x6 at hHa v6 ⊢; generalize t 5 = x5 at hHa v5 ⊢; generalize t 4 = x4 at hHa v4 ⊢; generalize t 3 = x3 at hHa v3 ⊢; generalize t 2 = x2 at hHa v2 ⊢; generalize t 1 = x1 at hHa v1 ⊢; generalize t 0 = x0 at hHa v0 ⊢; subst v0; subst v1; subst v2
  obtain ⟨p1a3, n1a3, c1a3, p2a3, n2a3, c2a3, p3a3, n3a3, c3a3, rfl⟩ := v3
  obtain ⟨za4, rfl⟩ := v4
  obtain ⟨aa5, ca5, rfl⟩ := v5
  subst v6
  simp only [blkOf_mk, tup0_mk, partsOf3, blkS_mk, cel3_mk] at hHa
  clear b
  replace hH := hHa; clear hHa
  replace hH : Held w wa [nB w.heap.size k p n (some ⟨bT, oT, none⟩) m cV aO op.length cO, aB (w.heap.size + 1) 29 [.int .i64 0, .int .i64 0, .int .i64 0, .slice none 0 0, .slice none 0 0], aI (.slice xc4 op.length cc4) op, aB qc6 29 [.int .i64 k, .int .i64 p, .int .i64 n, .slice aa5 (j + 1) ca5, .slice xc4 op.length cc4], aTs (.slice aa5 (j + 1) ca5) (cs ++ [(.slice p1a3 n1a3 c1a3, .slice p2a3 n2a3 c2a3, .slice p3a3 n3a3 c3a3)]) (QS ++ [(tl, (tl.map dm), (flat xs))]), tB wq.heap.size e1 tl.length f1 e2 tl.length f2 e3 m3 f3, emp, tB za4 p1a3 n1a3 c1a3 p2a3 n2a3 c2a3 p3a3 n3a3 c3a3] := hH
  go_wp2_with fail
  go_roundw
  case rel => exact ⟨j + 1, _, _, by omega, by go_num, by rw [HMS.out]; exact hH.sub (.cons_cons _ (.cons_cons _ (.cons_cons _ (.cons_cons _ (.cons_cons _ (.cons _ (.cons _ (.cons _ .slnil))))))))⟩
  case measure => simp [RowKit.intOf]; omega
 have hje : j = m := by omega
 subst hje
 have HQF : Hid (ts.map (tenOf dm) = QS) := Lib.hid (by rw [← HQS.out, List.take_of_length_le (by rw [HM.out]; exact Nat.le_refl _)])
 obtain ⟨q0_0, q0_1, q0_2, q0_3, q0_4, l0_⟩ := hH.c5 0 rfl; obtain ⟨q1_0, q1_1, q1_2, q1_3, q1_4, l1_⟩ := hH.c5 1 rfl; have f1_0 := hH.fr 1 0 rfl; have f1_1 := hH.fr 1 1 rfl; have f1_2 := hH.fr 1 2 rfl; have f1_3 := hH.fr 1 3 rfl; have f1_4 := hH.fr 1 4 rfl; obtain ⟨q3_0, q3_1, q3_2, q3_3, q3_4, l3_⟩ := hH.c5 3 rfl
 go_wp2_with fail
 refine bodyPost_ret (v := .agg #[.int .i64 k, .int .i64 p, .int .i64 n, .slice aS j cS, .slice xc4 op.length cc4]) (by simp [results, Tryz.results76, go_sem, *]) rfl ?_
 rw [HQF.out]
 exact ⟨_, _, cs, rfl, ((hH.setB5 (k := 1) rfl (.int .i64 k) (.int .i64 p) (.int .i64 n) (.slice aS j cS) (.slice xc4 op.length cc4)).sub (.cons _ (.cons _ (.cons_cons _ (.cons _ (.cons_cons _ .slnil)))))).swap2⟩
theorem Tryz.infoState : (Tryz.prog.info? 123).map (fun i => (i.zero, i.size)) = some (some (.agg (Array.replicate 100 (.int .i64 0) ++ #[.slice none 0 0, .slice none 0 0, .int .i64 0])), 103) := by kernel_rfl
theorem fold_front : ∀ (vs cs pre tl : List Value) (k : Nat), pre.length = k → cs.length = vs.length →
    (vs.zipIdx k).foldl (fun (a : Array Value) (p : Value × Nat) => a.setIfInBounds (0 + p.2) p.1) (pre ++ cs ++ tl).toArray = (pre ++ vs ++ tl).toArray
  | [], cs, pre, tl, k, hp, hc => by
    have : cs = [] := List.length_eq_zero_iff.1 hc
    subst this; rfl
  | v :: vs, [], _, _, _, _, hc => by simp at hc
  | v :: vs, c :: cs, pre, tl, k, hp, hc => by
    rw [List.zipIdx_cons, List.foldl_cons]
    have e : (pre ++ c :: cs ++ tl).toArray.setIfInBounds (0 + k) v = ((pre ++ [v]) ++ cs ++ tl).toArray := by
      rw [List.setIfInBounds_toArray, Nat.zero_add]
      congr 1
      rw [List.append_assoc, List.set_append_right _ _ (by omega), hp, Nat.sub_self, List.cons_append, List.set_cons_zero]
      simp
    rw [e, fold_front vs cs (pre ++ [v]) tl (k + 1) (by simp [hp]) (by simpa using hc)]
    simp
theorem run_build_state {A : List Int} (hA : A.length = 100) (a : Option Addr) (n c : Nat) (nx : Int) (w : World) : (Instr.build 123 #[(0, .agg (arrV A)), (1, .slice a n c), (3, .int .i64 nx)]).run Tryz.prog w = .ok (.agg (arrV A ++ #[.slice a n c, .slice none 0 0, .int .i64 nx])) w := by
  obtain ⟨i, hi, hz⟩ := Option.map_eq_some_iff.1 Tryz.infoState
  simp only [Prod.mk.injEq] at hz
  have hs : (arrV A).size = 100 := by rw [arrV_size, hA]
  have hf : (arrV A).zipIdx.foldl (fun (cs : Array Value) (p : Value × Nat) => cs.setIfInBounds (0 + p.2) p.1) (Array.replicate 100 (.int .i64 0) ++ #[.slice none 0 0, .slice none 0 0, .int .i64 0]) = arrV A ++ #[.slice none 0 0, .slice none 0 0, .int .i64 0] := by
    have h := fold_front (ints A) (List.replicate 100 (.int .i64 0)) [] [.slice none 0 0, .slice none 0 0, .int .i64 0] 0 rfl (by rw [ints_length, hA, List.length_replicate])
    have e1 : (Array.replicate 100 (Value.int .i64 0) ++ #[.slice none 0 0, .slice none 0 0, .int .i64 0]) = ([] ++ List.replicate 100 (Value.int .i64 0) ++ [Value.slice none 0 0, Value.slice none 0 0, Value.int .i64 0]).toArray := by simp
    rw [← Array.foldl_toList, Array.toList_zipIdx, arrV_list, e1, h]
    simp [arrV]
  have hfill : Instr.fill (fun x => [(0, 100), (100, 1), (101, 1), (102, 1)][x]?) (Array.replicate 100 (Value.int IntKind.i64 0) ++ #[Value.slice none 0 0, Value.slice none 0 0, Value.int IntKind.i64 0]) [(0, Value.agg (arrV A)), (1, Value.slice a n c), (3, Value.int IntKind.i64 nx)] = some (arrV A ++ #[.slice a n c, .slice none 0 0, .int .i64 nx]) := by
    have hsz : (Array.replicate 100 (Value.int IntKind.i64 0) ++ #[Value.slice none 0 0, Value.slice none 0 0, Value.int IntKind.i64 0]).size = 103 := by simp
    rw [Instr.fill]
    simp only [List.getElem?_cons_zero, Value.cells, hs, hsz]
    rw [if_neg (by simp), hf]
    simp [Instr.fill, Value.cells, hs, Array.setIfInBounds_append_right]
  simp [Instr.build, zeroValue, typeInfo, hi, hz.1, Sem.run_bind, Value.cells, Tryz.underlying123]
  rw [hfill]
  rfl
theorem Tryz.infoLive : (Tryz.prog.info? 125).map (fun i => (i.zero, i.size, i.bytes)) = some (some (.agg #[.int .i64 0, .slice none 0 0]), 2, 32) := by kernel_rfl
def cells2 (c : Int × Value) : List Value := [.int .i64 c.1, c.2]
theorem cells2_len (cs : List (Int × Value)) : (cs.flatMap cells2).length = cs.length * 2 := by
  induction cs with
  | nil => rfl
  | cons x l ih => rw [List.flatMap_cons, List.length_append, ih, List.length_cons]; simp [cells2]; omega
theorem cells2_get {cs : List (Int × Value)} {i : Nat} {c : Int × Value} (h : cs[i]? = some c) : (cs.flatMap cells2)[2 * i]? = some (.int .i64 c.1) ∧ (cs.flatMap cells2)[2 * i + 1]? = some c.2 := by
  induction cs generalizing i with
  | nil => simp at h
  | cons x l ih =>
    cases i with
    | zero => simp at h; subst h; exact ⟨rfl, rfl⟩
    | succ i =>
      have h2 := ih (i := i) (by simpa using h)
      have e1 : 2 * (i + 1) = 2 * i + 1 + 1 := by omega
      rw [List.flatMap_cons, e1]
      exact h2
def fpV2 (cs : List (Int × Value)) : List Nat := cs.flatMap fun c => c.2.ownBlock.toList
theorem mem_fpV2 {cs : List (Int × Value)} {b : Nat} : b ∈ fpV2 cs ↔ ∃ c ∈ cs, c.2.ownBlock = some b := by
  unfold fpV2
  rw [List.mem_flatMap]
  exact ⟨fun ⟨u, hu, hb⟩ => ⟨u, hu, by simpa using hb⟩, fun ⟨u, hu, hb⟩ => ⟨u, hu, by simpa using hb⟩⟩
structure OwnLv (w : World) (v : Value) (cs : List (Int × Value)) (ls : List (List Int)) : Prop where
  len : cs.length = ls.length
  row : w.ownsRow 0 125 2 v ls.length (cs.flatMap cells2)
  elem : ∀ (i : Nat) (c : Int × Value) (l : List Int), cs[i]? = some c → ls[i]? = some l → OwnI w 0 c.2 l
def aLv (v : Value) (cs : List (Int × Value)) (ls : List (List Int)) : Asn :=
  ⟨v.ownBlock.toList ++ fpV2 cs, fun w => OwnLv w v cs ls,
   fun w w' e h => ⟨h.len, ownsRow_near h.row fun b hb => e b (by simp [hb]), fun i u l hu hl => (h.elem i u l hu hl).near fun b hb => e b (List.mem_append_right _ (mem_fpV2.2 ⟨u, List.mem_of_getElem? hu, hb⟩))⟩,
   fun w h b hb => by
     rcases List.mem_append.1 hb with hb | hb
     · exact (ownsRow_lt h.row (by simpa using hb)).2
     · obtain ⟨u, hu, hb⟩ := mem_fpV2.1 hb
       obtain ⟨i, hi⟩ := List.getElem?_of_mem hu
       have hlt : i < ls.length := by rw [← h.len]; exact (List.getElem?_eq_some_iff.1 hi).1
       exact ((h.elem i u ls[i] hi (List.getElem?_eq_getElem hlt)).block_lt hb).2⟩
theorem OwnLv.nil (w : World) : OwnLv w (.slice none 0 0) [] [] := ⟨rfl, ⟨rfl, .inl ⟨rfl, rfl⟩⟩, fun i c t h => by simp at h⟩
structure LiveR (w : World) (s : Nat) (v : Value) (cs : List (Int × Value)) (ls : List (List Int)) : Prop where
  len : cs.length = ls.length
  row : Row w 2 v ls.length (cs.flatMap cells2)
  elem : ∀ (i : Nat) (c : Int × Value) (l : List Int), cs[i]? = some c → ls[i]? = some l → IntS w c.2 l
  off : 0 < ls.length → v.ownBlock ≠ some s
  offs : ∀ (i : Nat) (c : Int × Value) (l : List Int), cs[i]? = some c → ls[i]? = some l → 0 < l.length → c.2.ownBlock ≠ some s
theorem OwnLv.liveR {w : World} {s : Nat} {v : Value} {cs : List (Int × Value)} {ls : List (List Int)} (h : OwnLv w v cs ls) (hs : s ∉ (aLv v cs ls).fp) : LiveR w s v cs ls :=
  ⟨h.len, ownsRow_row h.row, fun i c l hc hl => (h.elem i c l hc hl).ints, fun _ e => hs (List.mem_append_left _ (by simp [e])), fun i c l hc _ _ e => hs (List.mem_append_right _ (mem_fpV2.2 ⟨c, List.mem_of_getElem? hc, e⟩))⟩
theorem LiveR.ext {w w' : World} {s : Nat} {v : Value} {cs : List (Int × Value)} {ls : List (List Int)} (h : LiveR w s v cs ls) (e : Ext w w') : LiveR w' s v cs ls :=
  ⟨h.len, h.row.ext e, fun i c l hc hl => (h.elem i c l hc hl).ext e, h.off, h.offs⟩
theorem Row.keep {w w' : World} {s size n : Nat} {v : Value} {xs : List Value} (h : Row w size v n xs) (g : w.grownBy w' (some s)) (hs : 0 < xs.length → v.ownBlock ≠ some s) : Row w' size v n xs := by
  obtain ⟨hl, a, cap, hv, h1, h2, h3⟩ := h
  refine ⟨hl, a, cap, hv, h1, h2, fun hp => ?_⟩
  obtain ⟨b, off, ha, hc⟩ := h3 hp
  refine ⟨b, off, ha, fun j u hj => ?_⟩
  have c1 := hc j u hj
  have hb : b ≠ s := by
    rintro rfl
    subst hv ha
    exact hs hp rfl
  have hlt := World.block_lt_of_cell? _ _ c1
  rw [← c1]
  have := g.block b hlt (fun e => hb (Option.some.inj e))
  simp only [World.cell?]
  rw [this]
theorem IntS.keep {w w' : World} {s : Nat} {v : Value} {l : List Int} (h : IntS w v l) (g : w.grownBy w' (some s)) (hs : 0 < l.length → v.ownBlock ≠ some s) : IntS w' v l := ⟨h.row.keep g fun hp => hs (by rwa [ints_length] at hp)⟩
theorem LiveR.keep {w w' : World} {s : Nat} {v : Value} {cs : List (Int × Value)} {ls : List (List Int)} (h : LiveR w s v cs ls) (g : w.grownBy w' (some s)) : LiveR w' s v cs ls :=
  ⟨h.len, h.row.keep g (fun hp => h.off (by rw [cells2_len, h.len] at hp; omega)), fun i c l hc hl => (h.elem i c l hc hl).keep g (h.offs i c l hc hl), h.off, h.offs⟩
theorem LiveR.get {w : World} {s : Nat} {a : Option Addr} {n cap : Nat} {cs : List (Int × Value)} {ls : List (List Int)} (h : LiveR w s (.slice a n cap) cs ls) {i : Nat} (hi : i < ls.length) :
    ∃ b o c l, a = some ⟨b, o, none⟩ ∧ cs[i]? = some c ∧ ls[i]? = some l ∧ w.cell? ⟨b, o + 2 * i, none⟩ = some (.int .i64 c.1) ∧ w.cell? ⟨b, o + (2 * i + 1), none⟩ = some c.2 ∧ IntS w c.2 l := by
  obtain ⟨a', cap', hv, _, _, h3⟩ := h.row.val
  cases hv
  have hci : i < cs.length := by rw [h.len]; exact hi
  obtain ⟨b, o, ha, hc⟩ := h3 (by rw [cells2_len]; omega)
  have e1 := List.getElem?_eq_getElem hci
  have e2 := List.getElem?_eq_getElem hi
  obtain ⟨g1, g2⟩ := cells2_get e1
  exact ⟨b, o, _, _, ha, e1, e2, hc _ _ g1, hc _ _ g2, h.elem i _ _ e1 e2⟩
theorem LiveR.val {w : World} {s : Nat} {v : Value} {cs : List (Int × Value)} {ls : List (List Int)} (h : LiveR w s v cs ls) : ∃ a cap, v = .slice a ls.length cap ∧ ls.length ≤ cap ∧ cap ≤ 9223372036854775807 := by
  obtain ⟨a, cap, hv, h1, h2, _⟩ := h.row.val
  exact ⟨a, cap, hv, h1, h2⟩
structure OrdS (w : World) (s : Nat) (A : List Int) (op : List Int) (cs : List (Int × Value)) (ls : List (List Int)) (nx : Int) : Prop where
  has : ∃ ov lv, Blk w s 123 (Proofs.YtlgjddgajdjllaaGreat.ints A ++ [ov, lv, .int .i64 nx]) ∧ IntS w ov op ∧ (0 < op.length → ov.ownBlock ≠ some s) ∧ LiveR w s lv cs ls
theorem OrdS.ext {w w' : World} {s : Nat} {A op : List Int} {cs : List (Int × Value)} {ls : List (List Int)} {nx : Int} (h : OrdS w s A op cs ls nx) (e : Ext w w') : OrdS w' s A op cs ls nx := by
  obtain ⟨ov, lv, h1, h2, h3, h4⟩ := h.has
  exact ⟨ov, lv, h1.ext e, h2.ext e, h3, h4.ext e⟩
theorem OrdS.lt {w : World} {s : Nat} {A op : List Int} {cs : List (Int × Value)} {ls : List (List Int)} {nx : Int} (h : OrdS w s A op cs ls nx) : s < w.heap.size := by
  obtain ⟨ov, lv, h1, _⟩ := h.has; exact h1.lt
section
variable {w : World} {s : Nat} {A : List Int} {x y z : Value}
theorem state_100 (hA : A.length = 100) (h : Blk w s 123 (Proofs.YtlgjddgajdjllaaGreat.ints A ++ [x, y, z])) : w.cell? ⟨s, 100, none⟩ = some x ∧ w.cell? ⟨s, 101, none⟩ = some y ∧ w.cell? ⟨s, 102, none⟩ = some z := by
  have hl : (Proofs.YtlgjddgajdjllaaGreat.ints A).length = 100 := by rw [ints_length, hA]
  refine ⟨h.cell ?_, h.cell ?_, h.cell ?_⟩
  · rw [List.getElem?_append_right (by omega), hl]; rfl
  · rw [List.getElem?_append_right (by omega), hl]; rfl
  · rw [List.getElem?_append_right (by omega), hl]; rfl
theorem state_set101 (hA : A.length = 100) (u : Value) : (Proofs.YtlgjddgajdjllaaGreat.ints A ++ [x, y, z]).set 101 u = Proofs.YtlgjddgajdjllaaGreat.ints A ++ [x, u, z] := by
  have hl : (Proofs.YtlgjddgajdjllaaGreat.ints A).length = 100 := by rw [ints_length, hA]
  rw [List.set_append_right _ _ (by omega), hl]; rfl
theorem state_set102 (hA : A.length = 100) (u : Value) : (Proofs.YtlgjddgajdjllaaGreat.ints A ++ [x, y, z]).set 102 u = Proofs.YtlgjddgajdjllaaGreat.ints A ++ [x, y, u] := by
  have hl : (Proofs.YtlgjddgajdjllaaGreat.ints A).length = 100 := by rw [ints_length, hA]
  rw [List.set_append_right _ _ (by omega), hl]; rfl
end
section
variable {ops : Array Oper} {rest : List Oper} {o : Oper} {a : Act} {w : World} {Q : Exit → Act → World → Prop}
theorem wpList_build_state (hg : o.guard = none) (x y z : Operand) (ho : o.op = .build 123 #[(0, x), (1, y), (3, z)]) {A : List Int} (hA : A.length = 100) {av : Option Addr} {n c : Nat} {nx : Int} (hx : a.eval x = .agg (arrV A)) (hy : a.eval y = .slice av n c) (hz : a.eval z = .int .i64 nx)
    (h : wpList Tryz.prog ops Q rest (a.put o.dst (.agg (arrV A ++ #[.slice av n c, .slice none 0 0, .int .i64 nx]))) w) : wpList Tryz.prog ops Q (o :: rest) a w := by
  refine wpList_plain hg fun K hK => ?_
  unfold Oper.wp execOp
  simp only [ho, hx, hy, hz, Sem.run_bind, List.map_toArray, List.map_cons, List.map_nil, run_build_state hA, Sem.run_pure, Result.andThen_ok]
  exact hK _ _ h
theorem wpList_box_state (hg : o.guard = none) (x : Operand) (ho : o.op = .box 123 x) {C : Array Value} (hx : a.eval x = .agg C)
    (h : wpList Tryz.prog ops Q rest (a.put o.dst (.pointer (some ⟨w.heap.size, 0, none⟩))) (w.alloc (.cells C 123))) : wpList Tryz.prog ops Q (o :: rest) a w := by
  refine wpList_plain hg fun K hK => ?_
  unfold Oper.wp execOp
  simp [ho, hx, Sem.run_bind, Instr.box, newVar, newRow, Value.cells, Sem.run_pure, Result.andThen_ok]
  exact hK _ _ h
end
theorem OwnLv.shape {w : World} {v : Value} {cs : List (Int × Value)} {ls : List (List Int)} (h : OwnLv w v cs ls) : ∃ a c, v = .slice a ls.length c := by
  obtain ⟨a, c, hv, _⟩ := (ownsRow_row h.row).val
  exact ⟨a, c, hv⟩
section
variable {ex : Option Nat} {a w w' : World} {L : List Asn} {k1 k2 : Nat}
theorem HeldX.nilLv (h : HeldX ex a w L) : HeldX ex a w (L ++ [aLv (.slice none 0 0) [] []]) := by
  have h2 := h.more
  have h3 := h2.alter (k := L.length) (A0 := emp) (A := aLv (.slice none 0 0) [] []) (by simp) (OwnLv.nil _) (fun b hb => by simp [aLv, fpV2, Value.ownBlock] at hb)
  rwa [List.set_append_right _ _ (Nat.le_refl _), Nat.sub_self, List.set_cons_zero] at h3
theorem ints_not_live {w : World} {B B' size n b : Nat} {v v' : Value} {xs : List Value} {l : List Int} (h : w.ownsRow B 125 size v n xs) (hb : v.ownBlock = some b) (o : OwnI w B' v' l) {c : Nat} (hc : v'.ownBlock = some c) : c ≠ b := by
  rintro rfl
  rcases h.2 with ⟨rfl, _⟩ | ⟨g, cap, cur, rfl, h3, h4, _⟩
  · simp [Value.ownBlock] at hb
  · simp [Value.ownBlock] at hb
    subst hb
    rcases o.own with ⟨rfl, _⟩ | ⟨b', rest, h1, rfl, h5, _⟩
    · simp [Value.ownBlock] at hc
    · simp [Value.ownBlock] at hc
      subst hc
      rw [h5.row] at h4
      simp at h4
theorem row_blk2 {w : World} {q : Nat} {T : TypeId} {x y : Value} (h : Blk w q T [x, y]) : Row w 2 (.slice (some ⟨q, 0, none⟩) 1 1) 1 [x, y] :=
  ⟨rfl, some ⟨q, 0, none⟩, 1, rfl, Nat.le_refl _, by unfold maxLen; omega, fun _ => ⟨q, 0, rfl, fun j u hj => by rw [Nat.zero_add]; exact h.cell hj⟩⟩
theorem run_pushLv (ty : TypeId) {v src x : Value} {cs : List (Int × Value)} {ls : List (List Int)} {l1 : List Int} (nm : Int) (h : HeldX ex a w L) (h1 : L[k1]? = some (aLv v cs ls)) (h2 : L[k2]? = some (aI x l1)) (hne : k1 ≠ k2) (hr : Row w 2 src 1 [.int .i64 nm, x]) (hb : ls.length + 1 ≤ 1099511627) :
    ∃ v' w', (Builtin.append_ #[121, 121] ty #[v, src]).run Tryz.prog w = .ok v' w' ∧ HeldX ex a w' ((L.set k2 emp).set k1 (aLv v' (cs ++ [(nm, x)]) (ls ++ [l1]))) ∧ w.grownBy w' v.ownBlock := by
  have ho : OwnLv w v cs ls := h.get h1
  have hx : OwnI w 0 x l1 := h.get h2
  obtain ⟨i, hi, hzz⟩ := Option.map_eq_some_iff.1 Tryz.infoLive
  simp only [Prod.mk.injEq] at hzz
  obtain ⟨hz, hsz, hby⟩ := hzz
  obtain ⟨_, _, rfl, _⟩ := hx.ints.val
  obtain ⟨v', w', e1, e2, e3, e4⟩ := run_app (P := Tryz.prog) w 0 121 ty 125 i _ 2 32 Tryz.underlying121 hi hz hsz hby rfl (by omega) v _ _ ho.row src 1 _ hr (by intro u hu; simp at hu; rcases hu with rfl | rfl <;> rfl) (by unfold maxLen; omega) (by omega) (Nat.zero_le _)
  refine ⟨v', w', e1, h.merge h1 h2 hne e3 (fun b hb => by simp [aLv, hb]) ?_ fun c hc => ?_, e3⟩
  · have far : ∀ {u : Value} {l : List Int}, OwnI w 0 u l → OwnI w' 0 u l := fun {u l} o =>
      o.near fun c hc => by
        refine e3.block c (o.block_lt hc).2 fun e => ?_
        exact ints_not_live ho.row e.symm o hc rfl
    refine ⟨by simp [ho.len], ?_, fun j c t hc ht => ?_⟩
    · rw [List.length_append, List.flatMap_append]
      exact ownsRow_any e2
    · have hl := ho.len
      rcases Nat.lt_or_ge j ls.length with hj | hj
      · rw [List.getElem?_append_left (by omega)] at hc
        rw [List.getElem?_append_left hj] at ht
        exact far (ho.elem j c t hc ht)
      · rw [List.getElem?_append_right (by omega)] at hc
        rw [List.getElem?_append_right hj] at ht
        have e0 : j - ls.length = 0 := by
          have := (List.getElem?_eq_some_iff.1 ht).1
          simp at this; omega
        rw [e0] at ht
        rw [show j - cs.length = 0 by omega] at hc
        simp at hc ht
        subst hc ht
        exact far hx
  · rcases List.mem_append.1 hc with hc | hc
    · rcases e4 with e4 | e4
      · exact .inl (List.mem_append_left _ (by rw [← e4]; exact hc))
      · rw [e4] at hc; simp at hc; exact .inr (.inr (by omega))
    · obtain ⟨d, hd, hc⟩ := mem_fpV2.1 hc
      rcases List.mem_append.1 hd with hd | hd
      · exact .inl (List.mem_append_right _ (mem_fpV2.2 ⟨d, hd, hc⟩))
      · simp at hd
        subst hd
        exact .inr (.inl (by simp [aI, hc]))
end
def aR (T : TypeId) (sz : Nat) (v : Value) (n : Nat) (xs : List Value) : Asn :=
  ⟨v.ownBlock.toList, fun w => w.ownsRow 0 T sz v n xs, fun w w' e h => ownsRow_near h fun b hb => e b (by simp [hb]), fun w h b hb => (ownsRow_lt h (by simpa using hb)).2⟩
section
variable {ex : Option Nat} {a w w' : World} {L : List Asn} {k : Nat}
theorem HeldX.nilR (h : HeldX ex a w L) (T : TypeId) (sz : Nat) : HeldX ex a w (L ++ [aR T sz (.slice none 0 0) 0 []]) := by
  have h2 := h.more
  have h3 := h2.alter (k := L.length) (A0 := emp) (A := aR T sz (.slice none 0 0) 0 []) (by simp) ⟨by simp, .inl ⟨rfl, rfl⟩⟩ (fun b hb => by simp [aR, Value.ownBlock] at hb)
  rwa [List.set_append_right _ _ (Nat.le_refl _), Nat.sub_self, List.set_cons_zero] at h3
theorem run_pushR (ty : TypeId) {v src x y : Value} {n : Nat} {xs : List Value} (h : HeldX ex a w L) (h1 : L[k]? = some (aR 125 2 v n xs)) (hr : Row w 2 src 1 [x, y]) (hx : x.oneCell' = true) (hy : y.oneCell' = true) (hb : n + 1 ≤ 1099511627) :
    ∃ v' w', (Builtin.append_ #[121, 121] ty #[v, src]).run Tryz.prog w = .ok v' w' ∧ HeldX ex a w' (L.set k (aR 125 2 v' (n + 1) (xs ++ [x, y]))) ∧ w.grownBy w' v.ownBlock ∧ Row w' 2 v' (n + 1) (xs ++ [x, y]) := by
  have ho : w.ownsRow 0 125 2 v n xs := h.get h1
  obtain ⟨i, hi, hzz⟩ := Option.map_eq_some_iff.1 Tryz.infoLive
  simp only [Prod.mk.injEq] at hzz
  obtain ⟨hz, hsz, hby⟩ := hzz
  obtain ⟨v', w', e1, e2, e3, e4⟩ := run_app (P := Tryz.prog) w 0 121 ty 125 i _ 2 32 Tryz.underlying121 hi hz hsz hby rfl (by omega) v _ _ ho src 1 _ hr (by intro u hu; simp at hu; rcases hu with rfl | rfl; exact hx; exact hy) (by unfold maxLen; omega) (by omega) (Nat.zero_le _)
  refine ⟨v', w', e1, h.turn h1 e3 (fun b hb => by simp [aR, hb]) e2 fun c hc => ?_, e3, ownsRow_row e2⟩
  rcases e4 with e4 | e4
  · left; have hc' : c ∈ v'.ownBlock.toList := hc; rw [e4] at hc'; exact hc'
  · right; have hc' : c ∈ v'.ownBlock.toList := hc; rw [e4] at hc'; simp at hc'; omega
end
def numL (m : Nat) : List Int := (List.range m).map fun i : Nat => (i : Int)
theorem numL_succ (m : Nat) : numL (m + 1) = numL m ++ [(m : Int)] := by simp [numL, List.range_succ]
theorem numL_len (m : Nat) : (numL m).length = m := by simp [numL]
theorem live_noS {ex : Option Nat} {a w : World} {L : List Asn} {k1 k2 s : Nat} {T : TypeId} {xs : List Value} {v : Value} {cs : List (Int × Value)} {ls : List (List Int)} (h : HeldX ex a w L) (h1 : L[k1]? = some (aB s T xs)) (h2 : L[k2]? = some (aLv v cs ls)) (hne : k2 ≠ k1) : s ∉ (aLv v cs ls).fp :=
  h.others h1 k2 _ hne h2 s (by simp [aB])
theorem startState_any {k p n : Int} (hr : ringOk k p n = true) {dm : Int → Int} {U : List Int} {ts : List (NT k p n)} {op : List Int} (hN : IsN k p n dm U ts op) (tv ov : Value) (w : World) (hT : TensS w tv (ts.map (tenOf dm))) (hO : IntS w ov op) :
 Calls Tryz.prog 75 #[.agg #[.int .i64 k, .int .i64 p, .int .i64 n, tv, ov]] w fun e w' => ∃ s cs, e = .returned (.pointer (some ⟨s, 0, none⟩)) ∧ Ext w w' ∧ w.heap.size ≤ s ∧ OrdS w' s (arrL dm (occ ts)) op cs (ts.map (·.1)) (ts.length : Int) ∧ cs.map (·.1) = numL ts.length := by
 obtain ⟨m, aV, cV, aO, cO, rfl, rfl, hcT1, hcT2, hcO1, hcO2, hm12, hop12, HM, HD3, hTl⟩ := net_in hN hT hO
 have hT0 := hT; have hO0 := hO; have HR := Lib.hid hr; have HN := Lib.hid hN; clear hr hN; try rw [HM.out]
 obtain ⟨A, hA⟩ : ∃ q, arrL dm (occ ts) = q := ⟨_, rfl⟩
 have hal : A.length = 100 := by rw [← hA]; exact arrL_length _ _
 have HAA := Lib.hid hA; have HAL := Lib.hid hal; clear hA hal
 go_enter Tryz.func75, Tryz.ntmps75
 go_upto_region 1 with fail
 have hH : Held w w [] := Held.new (Ext.refl w) 0
 obtain ⟨hB, hsz⟩ := hH.laid #[.int .i64 k, .int .i64 p, .int .i64 n, .slice aV m cV, .slice aO op.length cO] 29
 generalize w.alloc (.cells #[.int .i64 k, .int .i64 p, .int .i64 n, .slice aV m cV, .slice aO op.length cO] 29) = wn1 at hB hsz ⊢
 replace hH : Held w wn1 [nB w.heap.size k p n aV m cV aO op.length cO] := hB
 have HSZwn1 := Lib.hid (show wn1.heap.size = w.heap.size + 1 by rw [hsz]); clear hB hsz
 obtain ⟨q0_0, q0_1, q0_2, q0_3, q0_4, l0_⟩ := hH.c5 0 rfl
 go_wp2_with fail
 clear q0_0 q0_1 q0_2 q0_3 q0_4 l0_
 refine (dimsOf_any HD3.out (by rw [hTl.out]; omega) _ _ (hT.ext hH.ext)).mono ?_; rintro ewn2 wn2 ⟨rfl, hwn2⟩
 rw [occ3_ten, HAA.out]
 replace hH : Held w wn2 [nB w.heap.size k p n aV m cV aO op.length cO] := hH.grow hwn2
 clear hwn2
 go_upto_region 2 with (first | (refine wpList_alloc_arr rfl rfl ?_) | (refine wpList_store_arr (A0 := (List.replicate 100 0)) rfl _ _ rfl rfl rfl (by have h := Blk.new wn2 (arrV (List.replicate 100 0)) 92; rw [arrV_list] at h; exact h) HAL.out (List.length_replicate ..) ?_; rintro wn3 hg hB hs))
 replace hH : Held w wn3 [nB w.heap.size k p n aV m cV aO op.length cO, aB (wn2.heap.size) 92 (ints A)] := (hH.mores 1).add 1 (((Ext.refl _).alloc _).only hg (fun q hq => by cases hq; exact Nat.le_refl _)) hB (fun q hq => by simp [aB] at hq; subst hq; exact Nat.le_refl _)
 clear hg hB hs
 have hB0 := hH.blk (k := 1) rfl
 obtain ⟨q0_0, q0_1, q0_2, q0_3, q0_4, l0_⟩ := hH.c5 0 rfl
 go_wp2_with (first | (refine wpList_load_arr rfl _ rfl rfl hB0 HAL.out ?_) | (refine wpList_build_state rfl _ _ _ rfl HAL.out rfl rfl rfl ?_) | (refine wpList_box_state rfl _ rfl rfl ?_))
 clear q0_0 q0_1 q0_2 q0_3 q0_4 l0_
 clear hB0
 have hB : Held w (wn3.alloc (.cells (arrV A ++ #[.slice aO op.length cO, .slice none 0 0, .int .i64 (m : Int)]) 123)) [nB w.heap.size k p n aV m cV aO op.length cO, aB (wn2.heap.size) 92 (ints A), aB (wn3.heap.size) 123 (ints A ++ [.slice aO op.length cO, .slice none 0 0, .int .i64 (m : Int)])] := by
  have h := (hH.mores 1).addB 2 (arrV A ++ #[.slice aO op.length cO, .slice none 0 0, .int .i64 (m : Int)]) 123; rw [Array.toList_append, arrV_list] at h
  exact h
 have hsz : (wn3.alloc (.cells (arrV A ++ #[.slice aO op.length cO, .slice none 0 0, .int .i64 (m : Int)]) 123)).heap.size = wn3.heap.size + 1 := by simp
 generalize wn3.alloc (.cells (arrV A ++ #[.slice aO op.length cO, .slice none 0 0, .int .i64 (m : Int)]) 123) = wn4 at hB hsz ⊢
 replace hH := hB; have HSZwn4 := Lib.hid hsz; clear hB hsz
 have hsw : w.heap.size ≤ wn3.heap.size := by have := (hH.fpr (k := 2) rfl wn3.heap.size (by simp [aB])).1; exact this
 obtain ⟨s, hs⟩ : ∃ q, wn3.heap.size = q := ⟨_, rfl⟩
 rw [hs] at hH hsw
 rw [hs]
 clear hs
 replace hH := hH.nilLv
 replace hH : Held w wn4 [nB w.heap.size k p n aV m cV aO op.length cO, aB (wn2.heap.size) 92 (ints A), aB s 123 (ints A ++ [.slice aO op.length cO, .slice none 0 0, .int .i64 (m : Int)]), aLv (.slice none 0 0) [] []] := hH
 obtain ⟨wa, rfl⟩ : ∃ q, q = wn4 := ⟨wn4, rfl⟩
 go_loopw [25] (fun i wr => ∃ (j : Nat) (lv : Value) (cs : List (Int × Value)), j ≤ m ∧ i = .int .i64 (j : Int) ∧ Hid (cs.map (·.1) = numL j) ∧ Held w wr [nB w.heap.size k p n aV m cV aO op.length cO, aB (wn2.heap.size) 92 (ints A), aB s 123 (ints A ++ [.slice aO op.length cO, lv, .int .i64 (m : Int)]), aLv lv cs ((ts.take j).map (·.1))]) (fun i wr => m - (RowKit.intOf i).toNat)
 case atStart => exact ⟨0, _, _, Nat.zero_le _, rfl, Lib.hid rfl, hH⟩
 clear hH
 obtain ⟨j, lv, cs, hj, rfl, HCS, hH⟩ := hrel
 obtain ⟨LS, hLS⟩ : ∃ q, (ts.take j).map (·.1) = q := ⟨_, rfl⟩
 rw [hLS] at hH
 have hll : LS.length = j := by rw [← hLS, List.length_map, List.length_take, HM.out]; omega
 have HLL := Lib.hid hll; have HLS := Lib.hid hLS; clear hLS hll
 obtain ⟨aS, cS, hlv⟩ := OwnLv.shape (hH.get (k := 3) rfl : OwnLv _ _ cs LS)
 rw [HLL.out] at hlv
 subst hlv
 obtain ⟨wq, rfl⟩ : ∃ q, q = wr := ⟨wr, rfl⟩
 by_cases hlt : j < m
 ·
  obtain ⟨bT, oT, tl, xs, e1, f1, e2, f2, e3, m3, f3, hV, HTJ, HTI, hu0, hu1, hu2, hTu, hTL, hTD, hTX, _, _, _, _⟩ := hT.ten HN.out.ten (j := j) (by rw [hTl.out]; exact hlt); subst hV
  have HLT := Lib.hid (show (ts.take (j + 1)).map (·.1) = LS ++ [tl] by rw [List.take_add_one, HTJ.out, List.map_append, HLS.out]; rfl)
  have hrk : tl.length ≤ 12 := HTI.out.ax.rank
  obtain ⟨q0_0, q0_1, q0_2, q0_3, q0_4, l0_⟩ := hH.c5 0 rfl; have c_hu0 := hH.ext.cell hu0; have c_hu1 := hH.ext.cell hu1; have c_hu2 := hH.ext.cell hu2
  go_upto_region 6 with fail
  clear q0_0 q0_1 q0_2 q0_3 q0_4 l0_ c_hu0 c_hu1 c_hu2
  obtain ⟨hB, hsz⟩ := hH.laid #[.slice e1 tl.length f1, .slice e2 tl.length f2, .slice e3 m3 f3] 35
  generalize wq.alloc (.cells #[.slice e1 tl.length f1, .slice e2 tl.length f2, .slice e3 m3 f3] 35) = wn5 at hB hsz ⊢
  replace hH : Held w wn5 [nB w.heap.size k p n (some ⟨bT, oT, none⟩) m cV aO op.length cO, aB (wn2.heap.size) 92 (ints A), aB s 123 (ints A ++ [.slice aO op.length cO, .slice aS j cS, .int .i64 (m : Int)]), aLv (.slice aS j cS) cs LS, tB wq.heap.size e1 tl.length f1 e2 tl.length f2 e3 m3 f3] := hB
  have HSZwn5 := Lib.hid (show wn5.heap.size = wq.heap.size + 1 by rw [hsz]); clear hB hsz
  replace hH := hH.mores 2
  replace hH : Held w wn5 [nB w.heap.size k p n (some ⟨bT, oT, none⟩) m cV aO op.length cO, aB (wn2.heap.size) 92 (ints A), aB s 123 (ints A ++ [.slice aO op.length cO, .slice aS j cS, .int .i64 (m : Int)]), aLv (.slice aS j cS) cs LS, tB wq.heap.size e1 tl.length f1 e2 tl.length f2 e3 m3 f3, emp, emp] := hH
  refine wp_region_steps ?Fa (fun b t wx => Held w wx [nB w.heap.size k p n (some ⟨bT, oT, none⟩) m cV aO op.length cO, aB (wn2.heap.size) 92 (ints A), (bif b 14 then aB s 123 (ints A ++ [.slice aO op.length cO, t 11, .int .i64 (m : Int)]) else aB s 123 (ints A ++ [.slice aO op.length cO, .slice aS j cS, .int .i64 (m : Int)])), (bif b 11 then aLv (t 11) (cs ++ [((j : Int), t 8)]) (LS ++ [tl]) else aLv (.slice aS j cS) cs LS), tB wq.heap.size e1 tl.length f1 e2 tl.length f2 e3 m3 f3, (bif b 11 then emp else (bif b 8 then aI (t 8) tl else emp)), (bif b 10 then aB (blkS (t 10)) 125 [.int .i64 (j : Int), t 8] else emp)] ∧ (b 0 = true → t 0 = .pointer (some ⟨s, 0, none⟩)) ∧ (b 1 = true → t 1 = .pointer (some ⟨s, 0, none⟩)) ∧ (b 2 = true → t 2 = .pointer (some ⟨s, 0, none⟩)) ∧ (b 3 = true → t 3 = .pointer (some ⟨s, 101, none⟩)) ∧ (b 4 = true → t 4 = .slice aS j cS) ∧ (b 5 = true → t 5 = .int .i64 (j : Int)) ∧ (b 6 = true → t 6 = .pointer (some ⟨wq.heap.size, 0, none⟩)) ∧ (b 7 = true → t 7 = .slice e1 tl.length f1) ∧ (b 8 = true → ∃ x c, t 8 = .slice x tl.length c) ∧ (b 9 = true → t 9 = .agg #[.int .i64 (j : Int), t 8]) ∧ (b 10 = true → ∃ z, t 10 = .slice (some ⟨z, 0, none⟩) 1 1) ∧ (b 11 = true → ∃ a c, t 11 = .slice a (j + 1) c) ∧ (b 12 = true → t 12 = .pointer (some ⟨s, 0, none⟩)) ∧ (b 13 = true → t 13 = .pointer (some ⟨s, 101, none⟩))) ?hFa (by kernel_rfl) (by kernel_rfl) ?hJa ?hSa ?hEa
  (case hFa => intro t; simp only [putAll, Act.put, List.setIfInBounds_toArray, List.set_cons_zero, List.set_cons_succ, Nat.reduceAdd, Nat.zero_add]; exact rfl)
  case hJa => exact ⟨hH.grow ((Ext.refl _).drew), nof, nof, nof, nof, nof, nof, nof, nof, nof, nof, nof, nof, nof, nof⟩
  case hSa => as_aux_lemma =>
   refine st 1 rfl (fun b t wx hJ hb hd hcl Kc hK => ?_) ?_
   · obtain ⟨hH, hV⟩ := hJ
     go_simp
     apply sk hK
     · rfl
     exact ⟨hH, rp (fun _ => rfl) hV⟩
   refine st 2 rfl (fun b t wx hJ hb hd hcl Kc hK => ?_) ?_
   · obtain ⟨hH, hV⟩ := hJ
     go_simp
     apply sk hK
     · rfl
     exact ⟨hH, jA (rp (fun _ => rfl)) hV⟩
   refine st 3 rfl (fun b t wx hJ hb hd hcl Kc hK => ?_) ?_
   · obtain ⟨hH, hV⟩ := hJ
     have d1 := so hd 1; have r1 := hV.2.1 d1
     go_simp
     apply sk hK
     · (try simp only [r1]); rfl
     exact ⟨hH, jB (rp (fun _ => rfl)) hV⟩
   refine st 4 rfl (fun b t wx hJ hb hd hcl Kc hK => ?_) ?_
   · obtain ⟨hH, hV⟩ := hJ
     have d2 := so hd 2; have r2 := hV.2.2.1 d2
     go_simp
     apply sk hK
     · (try simp only [r2]); rfl
     exact ⟨hH, jB (jA (rp (fun _ => rfl))) hV⟩
   refine st 5 rfl (fun b t wx hJ hb hd hcl Kc hK => ?_) ?_
   · obtain ⟨hH, hV⟩ := hJ
     have d3 := so hd 3
     have n14 : b 14 = false := nf hb fun h => sc hcl 14 4 (h)
     have r3 := hV.2.2.2.1 d3
     have hN := hH; (try simp only [hb, d3, n14, cond_true, cond_false] at hN)
     have B := hN.blk (k := 2) rfl
     have z1 := (state_100 HAL.out B).2.1
     go_simp
     apply sk hK
     · (try simp only [r3]); rfl
     exact ⟨hH, jD (rp (fun _ => rfl)) hV⟩
   refine st 6 rfl (fun b t wx hJ hb hd hcl Kc hK => ?_) ?_
   · obtain ⟨hH, hV⟩ := hJ
     go_simp
     apply sk hK
     · rfl
     exact ⟨hH, jD (jA (rp (fun _ => rfl))) hV⟩
   refine st 7 rfl (fun b t wx hJ hb hd hcl Kc hK => ?_) ?_
   · obtain ⟨hH, hV⟩ := hJ
     go_simp
     apply sk hK
     · rfl
     exact ⟨hH, jD (jB (rp (fun _ => rfl))) hV⟩
   refine st 8 rfl (fun b t wx hJ hb hd hcl Kc hK => ?_) ?_
   · obtain ⟨hH, hV⟩ := hJ
     have d6 := so hd 6; have r6 := hV.2.2.2.2.2.2.1 d6; have q4_0 := hH.cl 4 0 rfl rfl
     go_simp
     apply sk hK
     · (try simp only [r6]); rfl
     exact ⟨hH, jD (jB (jA (rp (fun _ => rfl)))) hV⟩
   refine st 9 rfl (fun b t wx hJ hb hd hcl Kc hK => ?_) ?_
   · obtain ⟨hH, v0, v1, v2, v3, v4, v5, v6, v7, v8, v9, v10, v11, v12, v13⟩ := hJ
     have d7 := so hd 7
     have n9 : b 9 = false := nf hb fun h => sc hcl 9 8 (h)
     have n10 : b 10 = false := nf hb fun h => sc hcl 9 8 (sc hcl 10 9 (h))
     have n11 : b 11 = false := nf hb fun h => sc hcl 11 8 (h)
     have r7 := v7 d7
     have hN := hH; (try simp only [hb, d7, n9, n10, n11, cond_true, cond_false] at hN)
     go_simp
     go_at_call 58
     refine (copyInts_any _ tl _ (hTL.ext hH.ext) (by omega)).mono ?_; rintro e8 w8 ⟨v8, rfl, o8, h8⟩
     obtain ⟨x8, c8, rfl, _, _⟩ := o8.ints.val
     (try go_simp)
     apply sk hK
     · (try simp only [r7]); rfl
     exact ⟨by have hX := hN.addI 5 h8 o8 (Nat.le_refl _); simpa only [List.set_cons_zero, List.set_cons_succ, updB, updV, blkOf_mk, tup0_mk, partsOf3, blkS_mk, Nat.reduceBEq, cond_true, cond_false, hb, d7, n9, n10, n11, r7] using hX, v0, v1, v2, v3, v4, v5, v6, v7, fun _ => ⟨_, _, rfl⟩, ab n9, v10, v11, v12, v13⟩
   refine st 10 rfl (fun b t wx hJ hb hd hcl Kc hK => ?_) ?_
   · obtain ⟨hH, hV⟩ := hJ
     have d5 := so hd 5; have d8 := so hd 8; have r5 := hV.2.2.2.2.2.1 d5; have r8 := hV.2.2.2.2.2.2.2.2.1 d8
     obtain ⟨x_8, c_8, r8⟩ := r8
     have e8 := r8 -- d8
     go_simp
     apply sk hK
     · (try simp only [r5, r8]); rfl
     exact ⟨hH, jD (jD (jA (rp (fun _ => (by show Value.agg _ = Value.agg #[_, t 8]; rw [r8]))))) hV⟩
   refine st 11 rfl (fun b t wx hJ hb hd hcl Kc hK => ?_) ?_
   · obtain ⟨hH, hV⟩ := hJ
     have d8 := sc hcl 9 8 (so hd 9); have d9 := so hd 9; have r8 := hV.2.2.2.2.2.2.2.2.1 d8; have r9 := hV.2.2.2.2.2.2.2.2.2.1 d9
     obtain ⟨x_8, c_8, r8⟩ := r8
     have hN := hH; (try simp only [hb, d8, d9, cond_true, cond_false] at hN)
     rw [r8] at r9 -- d8 d9
     go_simp
     apply sk hK
     · (try simp only [r8, r9]); rfl
     exact ⟨by have hX := hN.addB 6 #[.int .i64 (j : Int), .slice x_8 tl.length c_8] 125; simpa only [List.set_cons_zero, List.set_cons_succ, updB, updV, blkOf_mk, tup0_mk, partsOf3, blkS_mk, Nat.reduceBEq, cond_true, cond_false, hb, d8, d9, r8, r9] using hX, jD (jD (jB (rp (fun _ => ⟨_, rfl⟩)))) hV⟩
   refine st 12 rfl (fun b t wx hJ hb hd hcl Kc hK => ?_) ?_
   · obtain ⟨hH, hV⟩ := hJ
     have d4 := so hd 4; have d8 := so hd 8; have d10 := so hd 10
     have n14 : b 14 = false := nf hb fun h => sc hcl 14 11 (h)
     have r4 := hV.2.2.2.2.1 d4; have r8 := hV.2.2.2.2.2.2.2.2.1 d8; have r10 := hV.2.2.2.2.2.2.2.2.2.2.1 d10
     obtain ⟨x_8, c_8, r8⟩ := r8
     obtain ⟨z_10, r10⟩ := r10
     have hN := hH; (try simp only [hb, d4, d8, d10, n14, cond_true, cond_false] at hN)
     rw [r8, r10] at hN -- d8 d10
     refine step_app wx rfl _ _ 121 rfl (.slice aS j cS) (t 10) (by first | rfl | (go_simp; done)) (by first | rfl | (go_simp; done)) _ (run_pushLv _ (j : Int) hN (k1 := 3) (k2 := 5) rfl rfl (by decide) (by rw [r10]; have h := hN.blk (k := 6) rfl; exact row_blk2 h) (by rw [HLL.out]; omega)) ?_; rintro va wa ⟨hHa, ga⟩
     obtain ⟨aa, ca, hva⟩ := OwnLv.shape (hHa.get (k := 3) rfl : OwnLv _ _ _ (LS ++ [tl]))
     rw [List.length_append, List.length_singleton, HLL.out] at hva
     subst hva
     apply sk hK
     · (try simp only [r4, r8, r10]); rfl
     exact ⟨by have hX := hHa; simpa only [List.set_cons_zero, List.set_cons_succ, updB, updV, blkOf_mk, tup0_mk, partsOf3, blkS_mk, Nat.reduceBEq, cond_true, cond_false, hb, d4, d8, d10, n14, r4, r8, r10] using hX, jD (jD (jB (jA (rp (fun _ => ⟨_, _, rfl⟩))))) hV⟩
   refine st 13 rfl (fun b t wx hJ hb hd hcl Kc hK => ?_) ?_
   · obtain ⟨hH, hV⟩ := hJ
     have d0 := so hd 0; have d1 := so hd 1; have d2 := so hd 2; have d3 := so hd 3; have d4 := so hd 4; have d5 := so hd 5; have d6 := so hd 6; have d7 := so hd 7; have d8 := so hd 8; have d9 := so hd 9; have d10 := so hd 10; have d11 := so hd 11; have r0 := hV.1 d0; have r1 := hV.2.1 d1; have r2 := hV.2.2.1 d2; have r3 := hV.2.2.2.1 d3; have r4 := hV.2.2.2.2.1 d4; have r5 := hV.2.2.2.2.2.1 d5; have r6 := hV.2.2.2.2.2.2.1 d6; have r7 := hV.2.2.2.2.2.2.2.1 d7; have r8 := hV.2.2.2.2.2.2.2.2.1 d8; have r9 := hV.2.2.2.2.2.2.2.2.2.1 d9; have r10 := hV.2.2.2.2.2.2.2.2.2.2.1 d10; have r11 := hV.2.2.2.2.2.2.2.2.2.2.2.1 d11
     obtain ⟨x_8, c_8, r8⟩ := r8
     obtain ⟨z_10, r10⟩ := r10
     obtain ⟨a_11, c_11, r11⟩ := r11
     go_simp
     apply sk hK
     · (try simp only [r0, r1, r2, r3, r4, r5, r6, r7, r8, r9, r10, r11]); rfl
     exact ⟨hH, jD (jD (jD (rp (fun _ => rfl)))) hV⟩
   refine st 14 rfl (fun b t wx hJ hb hd hcl Kc hK => ?_) ?_
   · obtain ⟨hH, hV⟩ := hJ
     have d0 := so hd 0; have d1 := so hd 1; have d2 := so hd 2; have d3 := so hd 3; have d4 := so hd 4; have d5 := so hd 5; have d6 := so hd 6; have d7 := so hd 7; have d8 := so hd 8; have d9 := so hd 9; have d10 := so hd 10; have d11 := so hd 11; have d12 := so hd 12; have r0 := hV.1 d0; have r1 := hV.2.1 d1; have r2 := hV.2.2.1 d2; have r3 := hV.2.2.2.1 d3; have r4 := hV.2.2.2.2.1 d4; have r5 := hV.2.2.2.2.2.1 d5; have r6 := hV.2.2.2.2.2.2.1 d6; have r7 := hV.2.2.2.2.2.2.2.1 d7; have r8 := hV.2.2.2.2.2.2.2.2.1 d8; have r9 := hV.2.2.2.2.2.2.2.2.2.1 d9; have r10 := hV.2.2.2.2.2.2.2.2.2.2.1 d10; have r11 := hV.2.2.2.2.2.2.2.2.2.2.2.1 d11; have r12 := hV.2.2.2.2.2.2.2.2.2.2.2.2.1 d12
     obtain ⟨x_8, c_8, r8⟩ := r8
     obtain ⟨z_10, r10⟩ := r10
     obtain ⟨a_11, c_11, r11⟩ := r11
     go_simp
     apply sk hK
     · (try simp only [r0, r1, r2, r3, r4, r5, r6, r7, r8, r9, r10, r11, r12]); rfl
     exact ⟨hH, jD (jD (jD (jA (fun _ => fun _ => rfl)))) hV⟩
   refine st 15 rfl (fun b t wx hJ hb hd hcl Kc hK => ?_) ?_
   · obtain ⟨hH, hV⟩ := hJ
     have d0 := so hd 0; have d1 := so hd 1; have d2 := so hd 2; have d3 := so hd 3; have d4 := so hd 4; have d5 := so hd 5; have d6 := so hd 6; have d7 := so hd 7; have d8 := so hd 8; have d9 := so hd 9; have d10 := so hd 10; have d11 := so hd 11; have d13 := so hd 13; have r0 := hV.1 d0; have r1 := hV.2.1 d1; have r2 := hV.2.2.1 d2; have r3 := hV.2.2.2.1 d3; have r4 := hV.2.2.2.2.1 d4; have r5 := hV.2.2.2.2.2.1 d5; have r6 := hV.2.2.2.2.2.2.1 d6; have r7 := hV.2.2.2.2.2.2.2.1 d7; have r8 := hV.2.2.2.2.2.2.2.2.1 d8; have r9 := hV.2.2.2.2.2.2.2.2.2.1 d9; have r10 := hV.2.2.2.2.2.2.2.2.2.2.1 d10; have r11 := hV.2.2.2.2.2.2.2.2.2.2.2.1 d11; have r13 := hV.2.2.2.2.2.2.2.2.2.2.2.2.2 d13
     obtain ⟨x_8, c_8, r8⟩ := r8
     obtain ⟨z_10, r10⟩ := r10
     obtain ⟨a_11, c_11, r11⟩ := r11
     have hN := hH; (try simp only [hb, d0, d1, d2, d3, d4, d5, d6, d7, d8, d9, d10, d11, d13, cond_true, cond_false] at hN)
     have B := hN.blk (k := 2) rfl
     have z1 := (state_100 HAL.out B).2.1; have f1 := B.free 101; have lB := B.lt
     go_simp
     refine hK.out _ undef _ ?_ ?_; rotate_left 1
     · (try simp only [r0, r1, r2, r3, r4, r5, r6, r7, r8, r9, r10, r11, r13]); rfl
     exact ⟨by have hX := (by have h := hN.setB (k := 2) rfl 101 (t 11); rw [state_set101 HAL.out] at h; exact h); simpa only [List.set_cons_zero, List.set_cons_succ, updB, updV, blkOf_mk, tup0_mk, partsOf3, blkS_mk, Nat.reduceBEq, cond_true, cond_false, hb, d0, d1, d2, d3, d4, d5, d6, d7, d8, d9, d10, d11, d13, r0, r1, r2, r3, r4, r5, r6, r7, r8, r9, r10, r11, r13] using hX, hV⟩
   exact AllSteps.nil
  intro b t wa hJ hall
  obtain ⟨hHa, v0, v1, v2, v3, v4, v5, v6, v7, v8, v9, v10, v11, v12, v13⟩ := hJ
  have a0 := hall 0 (by decide); have a1 := hall 1 (by decide); have a2 := hall 2 (by decide); have a3 := hall 3 (by decide); have a4 := hall 4 (by decide); have a5 := hall 5 (by decide); have a6 := hall 6 (by decide); have a7 := hall 7 (by decide); have a8 := hall 8 (by decide); have a9 := hall 9 (by decide); have a10 := hall 10 (by decide); have a11 := hall 11 (by decide); have a12 := hall 12 (by decide); have a13 := hall 13 (by decide); have a14 := hall 14 (by decide)
  (try simp only [a0, a1, a2, a3, a4, a5, a6, a7, a8, a9, a10, a11, a12, a13, a14, cond_true] at hHa)
  replace v0 := v0 a0; replace v1 := v1 a1; replace v2 := v2 a2; replace v3 := v3 a3; replace v4 := v4 a4; replace v5 := v5 a5; replace v6 := v6 a6; replace v7 := v7 a7; replace v8 := v8 a8; replace v9 := v9 a9; replace v10 := v10 a10; replace v11 := v11 a11; replace v12 := v12 a12; replace v13 := v13 a13
  clear hall a0 a1 a2 a3 a4 a5 a6 a7 a8 a9 a10 a11 a12 a13 a14
  generalize t 13 = x13 at hHa v13 ⊢; generalize t 12 = x12 at hHa v12 ⊢; generalize t 11 = x11 at hHa v11 ⊢; generalize t 10 = x10 at hHa v10 ⊢; generalize t 9 = x9 at hHa v9 ⊢; generalize t 8 = x8 at hHa v8 v9 ⊢; generalize t 7 = x7 at hHa v7 ⊢; generalize t 6 = x6 at hHa v6 ⊢; generalize t 5 = x5 at hHa v5 ⊢; generalize t 4 = x4 at hHa v4 ⊢; generalize t 3 = x3 at hHa v3 ⊢; generalize t 2 = x2 at hHa v2 ⊢; generalize t 1 = x1 at hHa v1 ⊢; generalize t 0 = x0 at hHa v0 ⊢; subst v0; subst v1; subst v2; subst v3; subst v4; subst v5; subst v6; subst v7
  obtain ⟨xa8, ca8, rfl⟩ := v8
  subst v9
  obtain ⟨za10, rfl⟩ := v10
  obtain ⟨aa11, ca11, rfl⟩ := v11
  subst v12; subst v13
  clear b
  replace hH := hHa; clear hHa
  replace hH : Held w wa [nB w.heap.size k p n (some ⟨bT, oT, none⟩) m cV aO op.length cO, aB (wn2.heap.size) 92 (ints A), aB s 123 (ints A ++ [.slice aO op.length cO, .slice aa11 (j + 1) ca11, .int .i64 (m : Int)]), aLv (.slice aa11 (j + 1) ca11) (cs ++ [((j : Int), .slice xa8 tl.length ca8)]) (LS ++ [tl]), tB wq.heap.size e1 tl.length f1 e2 tl.length f2 e3 m3 f3, emp, aB za10 125 [.int .i64 (j : Int), .slice xa8 tl.length ca8]] := hH
  go_wp2_with fail
  go_roundw
  case rel => exact ⟨j + 1, _, cs ++ [((j : Int), .slice xa8 tl.length ca8)], by omega, by go_num, Lib.hid (by rw [List.map_append, HCS.out, numL_succ]; rfl), by rw [HLT.out]; exact hH.sub (.cons_cons _ (.cons_cons _ (.cons_cons _ (.cons_cons _ (.cons _ (.cons _ (.cons _ .slnil)))))))⟩
  case measure => simp [RowKit.intOf]; omega
 have hje : j = m := by omega
 subst hje
 have HLF : Hid (ts.map (·.1) = LS) := Lib.hid (by rw [← HLS.out, List.take_of_length_le (by rw [HM.out]; exact Nat.le_refl _)])
 have HO1 : Hid (OrdS wq s A op cs LS (j : Int)) := Lib.hid ⟨_, _, hH.blk (k := 2) rfl, hO0.ext hH.ext, fun hp e => by obtain ⟨b, o, x, hb, hc, _⟩ := hO0.get (i := 0) hp; subst hb; simp [Value.ownBlock] at e; subst e; have := World.block_lt_of_cell? _ _ hc; simp at this; omega, OwnLv.liveR (hH.get (k := 3) rfl) (live_noS hH (k1 := 2) (k2 := 3) rfl rfl (by decide))⟩
 have HE := Lib.hid hH.ext; clear hH
 go_wp2
 go_ret
 exact ⟨s, cs, rfl, HE.out, hsw, by rw [HAA.out, HLF.out]; exact HO1.out, HCS.out⟩
theorem findGo_drop {l : List Int} {x : Int} {j : Nat} {y : Int} (h : l[j]? = some y) : findGo x (j : Int) (l.drop j) = if y = x then (j : Int) else findGo x ((j + 1 : Nat) : Int) (l.drop (j + 1)) := by
  obtain ⟨hj, rfl⟩ := List.getElem?_eq_some_iff.1 h
  rw [List.drop_eq_getElem_cons hj, findGo]; rfl
theorem place_any {s : Nat} {A op : List Int} {cs : List (Int × Value)} {ls : List (List Int)} {nx : Int} (hal : A.length = 100) (w : World) (hS : OrdS w s A op cs ls nx) (hlen : ls.length ≤ 1000) (x : Int) :
 Calls Tryz.prog 77 #[.pointer (some ⟨s, 0, none⟩), .int .i64 x] w fun e w' => e = .returned (.int .i64 (findL (cs.map (·.1)) x)) ∧ Ext w w' := by
 obtain ⟨ov, lv, hB, hov, hovs, hLv⟩ := hS.has
 obtain ⟨aV, cV, rfl, hcV1, hcV2⟩ := hLv.val
 obtain ⟨aO, cO, rfl, hcO1, hcO2⟩ := hov.val
 obtain ⟨m, hm⟩ : ∃ m, ls.length = m := ⟨_, rfl⟩
 rw [hm] at hLv hcV1 hlen hB
 have HM := Lib.hid hm
 have hcm : cs.length = m := by rw [hLv.len]; exact hm
 have HCM := Lib.hid hcm; clear hm hcm
 have HAL := Lib.hid hal
 have k100 := (state_100 hal hB).1
 have k101 := (state_100 hal hB).2.1
 have k102 := (state_100 hal hB).2.2
 have kst := hB.lt
 clear hal
 obtain ⟨NS, hNS⟩ : ∃ q, cs.map (·.1) = q := ⟨_, rfl⟩
 obtain ⟨R, hR⟩ : ∃ q, findL (cs.map (·.1)) x = q := ⟨_, rfl⟩
 rw [hR]
 rw [hNS] at hR
 have hnl : NS.length = m := by rw [← hNS, List.length_map]; exact HCM.out
 have HNS := Lib.hid hNS; have HR := Lib.hid hR; have HNL := Lib.hid hnl; clear hNS hR hnl
 have hH : Held w w [] := Held.new (Ext.refl w) 0
 go_enter Tryz.func77, Tryz.ntmps77
 have c_k100 := hH.ext.cell k100; have c_k101 := hH.ext.cell k101; have c_k102 := hH.ext.cell k102
 have c_kst := Nat.lt_of_lt_of_le kst hH.ext.size
 go_wp2_with fail
 clear c_k100 c_k101 c_k102 c_kst
 go_loopw [12] (fun i wr => ∃ j : Nat, j ≤ m ∧ i = .int .i64 (j : Int) ∧ Hid (findGo x (j : Int) (NS.drop j) = R) ∧ Held w wr []) (fun i wr => m - (RowKit.intOf i).toNat)
 case atStart => exact ⟨0, Nat.zero_le _, rfl, HR, hH⟩
 clear hH
 obtain ⟨j, hj, rfl, HF, hH⟩ := hrel
 by_cases hlt : j < m
 ·
  obtain ⟨bL, oL, c, l, hV, hcj, hlj, hq0, hq1, hI⟩ := hLv.get (i := j) (by rw [HM.out]; exact hlt)
  subst hV
  obtain ⟨n, u⟩ := c
  simp only at hq0 hq1 hI
  obtain ⟨ea, ec, rfl, _, _⟩ := hI.val
  rw [Nat.mul_comm 2 j] at hq0 hq1
  rw [← Nat.add_assoc] at hq1
  have HC := Lib.hid hcj; have HL := Lib.hid hlj; clear hcj hlj
  have hnj : NS[j]? = some n := by rw [← HNS.out, List.getElem?_map, HC.out]; rfl
  have hfd := findGo_drop (x := x) hnj
  rw [HF.out] at hfd
  have HFD := Lib.hid hfd; clear hfd hnj
  have c_k100 := hH.ext.cell k100; have c_k101 := hH.ext.cell k101; have c_k102 := hH.ext.cell k102; have c_hq0 := hH.ext.cell hq0; have c_hq1 := hH.ext.cell hq1
  have c_kst := Nat.lt_of_lt_of_le kst hH.ext.size
  go_upto_region 4 with fail
  clear c_k100 c_k101 c_k102 c_hq0 c_hq1 c_kst
  obtain ⟨hB, hsz⟩ := hH.laid #[.int .i64 n, .slice ea l.length ec] 125
  generalize wr.alloc (.cells #[.int .i64 n, .slice ea l.length ec] 125) = wn1 at hB hsz ⊢
  replace hH : Held w wn1 [aB (wr.heap.size) 125 [.int .i64 n, .slice ea l.length ec]] := hB
  have HSZwn1 := Lib.hid (show wn1.heap.size = wr.heap.size + 1 by rw [hsz]); clear hB hsz
  by_cases hnx : n = x
  ·
   have hR2 := HFD.out; rw [if_pos hnx] at hR2
   have HR2 := Lib.hid hR2; clear hR2
   have q0_0 := hH.cl 0 0 rfl rfl; have q0_1 := hH.cl 0 1 rfl rfl; have l0_ := hH.bl 0 rfl; have c_k100 := hH.ext.cell k100; have c_k101 := hH.ext.cell k101; have c_k102 := hH.ext.cell k102; have c_hq0 := hH.ext.cell hq0; have c_hq1 := hH.ext.cell hq1
   have c_kst := Nat.lt_of_lt_of_le kst hH.ext.size
   have HE := Lib.hid hH.ext
   go_wp2
   go_ret
   exact ⟨by rw [← HR2.out]; rfl, HE.out⟩
  have hR2 := HFD.out; rw [if_neg hnx] at hR2
  have HR2 := Lib.hid hR2.symm; clear hR2
  have q0_0 := hH.cl 0 0 rfl rfl; have q0_1 := hH.cl 0 1 rfl rfl; have l0_ := hH.bl 0 rfl; have c_k100 := hH.ext.cell k100; have c_k101 := hH.ext.cell k101; have c_k102 := hH.ext.cell k102; have c_hq0 := hH.ext.cell hq0; have c_hq1 := hH.ext.cell hq1
  have c_kst := Nat.lt_of_lt_of_le kst hH.ext.size
  go_wp2_with fail
  go_roundw
  case rel => exact ⟨j + 1, by omega, by go_num, HR2, hH.sub (.cons _ .slnil)⟩
  case measure => simp [RowKit.intOf]; omega
 have hje : j = m := by omega
 subst hje
 have hR2 := HF.out; rw [List.drop_eq_nil_of_le (by rw [HNL.out]; exact Nat.le_refl _)] at hR2
 have HR2 : Hid ((-1 : Int) = R) := Lib.hid hR2; clear hR2
 have HE := Lib.hid hH.ext; clear hH
 go_wp2
 go_ret
 exact ⟨by rw [← HR2.out]; rfl, HE.out⟩
theorem hasL_app (a b : List Int) (x : Int) : hasL (a ++ b) x = (hasL a x || hasL b x) := by
  rw [Bool.eq_iff_iff, Bool.or_eq_true, hasL_iff, hasL_iff, hasL_iff, List.mem_append]
def seenL (op : List Int) (ls : List (List Int)) (i j q : Nat) (x : Int) : Bool := hasL (op ++ (dropGo ls i j q).flatten) x
theorem seenL_0 (op : List Int) (ls : List (List Int)) (i j : Nat) (x : Int) : seenL op ls i j 0 x = hasL op x := by
  unfold seenL dropGo; simp
theorem seenL_no {op : List Int} {ls : List (List Int)} {i j q : Nat} {x : Int} (h : q = i ∨ q = j) : seenL op ls i j (q + 1) x = seenL op ls i j q x := by
  unfold seenL; rw [dropGo_no h]
theorem seenL_yes {op : List Int} {ls : List (List Int)} {i j q : Nat} {x : Int} (h : ¬ (q = i ∨ q = j)) {l : List Int} (hl : ls[q]? = some l) : seenL op ls i j (q + 1) x = (seenL op ls i j q x || hasL l x) := by
  unfold seenL; rw [dropGo_yes h hl, List.flatten_append, ← List.append_assoc, hasL_app, List.flatten_singleton]
theorem seenL_end {op : List Int} {ls : List (List Int)} {i j m : Nat} {x : Int} (hm : ls.length = m) : seenL op ls i j m x = hasL (resK op ls i j) x := by
  unfold seenL resK drop2; rw [hm]
theorem resultLabels_any {s : Nat} {A op : List Int} {cs : List (Int × Value)} {ls : List (List Int)} {nx : Int} (hal : A.length = 100) (w : World) (hS : OrdS w s A op cs ls nx) (hlen : ls.length ≤ 1000) (hrk : ∀ l ∈ ls, l.length ≤ 500) (i j : Nat) (hi : i < ls.length) (hj : j < ls.length) :
 Calls Tryz.prog 78 #[.pointer (some ⟨s, 0, none⟩), .int .i64 (i : Int), .int .i64 (j : Int)] w fun e w' => ∃ u, e = .returned u ∧ OwnI w' w.heap.size u (resL op ls i j) ∧ Ext w w' := by
 obtain ⟨RK, hRK⟩ : ∃ q, resK op ls i j = q := ⟨_, rfl⟩
 have HSE : Hid (∀ x, seenL op ls i j ls.length x = hasL RK x) := Lib.hid fun x => by rw [← hRK]; exact seenL_end rfl
 have HS0 := Lib.hid (seenL_0 op ls i j)
 have HSN := Lib.hid (fun (q : Nat) (x : Int) (h : q = i ∨ q = j) => seenL_no (op := op) (ls := ls) (x := x) h)
 have HSY := Lib.hid (fun (q : Nat) (x : Int) (h : ¬ (q = i ∨ q = j)) (l : List Int) (hl : ls[q]? = some l) => seenL_yes (op := op) (x := x) h hl)
 obtain ⟨SE, hSE⟩ : ∃ q, seenL op ls i j = q := ⟨_, rfl⟩
 rw [hSE] at HSE HS0 HSN HSY
 have HRL : Hid (resL op ls i j = keepL (joinL (labAt ls i) (labAt ls j)) RK) := Lib.hid (by unfold resL; rw [hRK])
 clear hRK hSE
 have HRK := Lib.hid hrk; clear hrk
 obtain ⟨ov, lv, hB, hov, hovs, hLv⟩ := hS.has
 obtain ⟨aV, cV, rfl, hcV1, hcV2⟩ := hLv.val
 obtain ⟨aO, cO, rfl, hcO1, hcO2⟩ := hov.val
 obtain ⟨m, hm⟩ : ∃ m, ls.length = m := ⟨_, rfl⟩
 rw [hm] at hLv hcV1 hlen hB
 have HM := Lib.hid hm
 have hcm : cs.length = m := by rw [hLv.len]; exact hm
 have HCM := Lib.hid hcm; clear hm hcm
 have HAL := Lib.hid hal
 have k100 := (state_100 hal hB).1
 have k101 := (state_100 hal hB).2.1
 have k102 := (state_100 hal hB).2.2
 have kst := hB.lt
 clear hal
 have HI : Hid (i < m) := Lib.hid (by have := HM.out; omega); have HJ : Hid (j < m) := Lib.hid (by have := HM.out; omega)
 clear hi hj
 have hi := HI.out; have hj := HJ.out
 have HSM : Hid (∀ x, SE m x = hasL RK x) := Lib.hid fun x => by have := HSE.out x; rwa [HM.out] at this
 clear HSE
 obtain ⟨bL, oL, ca, la, hV, hcj, hlj, hq0a, hq1a, hIa⟩ := hLv.get (i := i) (by rw [HM.out]; exact hi)
 subst hV
 obtain ⟨na, ua⟩ := ca
 simp only at hq0a hq1a hIa
 obtain ⟨eaa, eca, rfl, _, _⟩ := hIa.val
 rw [Nat.mul_comm 2 i] at hq0a hq1a
 rw [← Nat.add_assoc] at hq1a
 have HCa := Lib.hid hcj; have HLa := Lib.hid hlj; clear hcj hlj
 obtain ⟨bL', oL', cb, lb, hV, hcj, hlj, hq0b, hq1b, hIb⟩ := hLv.get (i := j) (by rw [HM.out]; exact hj)
 cases hV
 obtain ⟨nb, ub⟩ := cb
 simp only at hq0b hq1b hIb
 obtain ⟨eab, ecb, rfl, _, _⟩ := hIb.val
 rw [Nat.mul_comm 2 j] at hq0b hq1b
 rw [← Nat.add_assoc] at hq1b
 have HCb := Lib.hid hcj; have HLb := Lib.hid hlj; clear hcj hlj
 have hra := HRK.out la (List.mem_of_getElem? HLa.out)
 have hrb := HRK.out lb (List.mem_of_getElem? HLb.out)
 have hRL := HRL.out
 rw [labAt_get HLa.out, labAt_get HLb.out] at hRL
 rw [hRL]; clear hRL HRL
 have hH : Held w w [] := Held.new (Ext.refl w) 0
 go_enter Tryz.func78, Tryz.ntmps78
 obtain ⟨JN, hJN⟩ : ∃ q, joinL la lb = q := ⟨_, rfl⟩
 have hjl := joinL_len la lb
 rw [hJN] at hjl ⊢
 have HJN := Lib.hid hJN; clear hJN
 replace hH := hH.mores 1
 go_upto_region 2 with fail
 replace hH : Held w w [emp] := hH
 refine wp_region_steps ?Fa (fun b t wx => Held w wx [(bif b 16 then aI (t 16) JN else emp)] ∧ (b 0 = true → t 0 = .pointer (some ⟨s, 0, none⟩)) ∧ (b 1 = true → t 1 = .pointer (some ⟨s, 0, none⟩)) ∧ (b 2 = true → t 2 = .pointer (some ⟨s, 101, none⟩)) ∧ (b 3 = true → t 3 = .slice (some ⟨bL, oL, none⟩) m cV) ∧ (b 4 = true → t 4 = .int .i64 (i : Int)) ∧ (b 5 = true → t 5 = .pointer (some ⟨bL, oL + i * 2, none⟩)) ∧ (b 6 = true → t 6 = .pointer (some ⟨bL, oL + i * 2 + 1, none⟩)) ∧ (b 7 = true → t 7 = .slice eaa la.length eca) ∧ (b 8 = true → t 8 = .pointer (some ⟨s, 0, none⟩)) ∧ (b 9 = true → t 9 = .pointer (some ⟨s, 0, none⟩)) ∧ (b 10 = true → t 10 = .pointer (some ⟨s, 101, none⟩)) ∧ (b 11 = true → t 11 = .slice (some ⟨bL, oL, none⟩) m cV) ∧ (b 12 = true → t 12 = .int .i64 (j : Int)) ∧ (b 13 = true → t 13 = .pointer (some ⟨bL, oL + j * 2, none⟩)) ∧ (b 14 = true → t 14 = .pointer (some ⟨bL, oL + j * 2 + 1, none⟩)) ∧ (b 15 = true → t 15 = .slice eab lb.length ecb) ∧ (b 16 = true → ∃ x c, t 16 = .slice x JN.length c) ∧ (b 17 = true → t 17 = .int .i64 (JN.length : Int)) ∧ (b 18 = true → t 18 = .int .i64 0)) ?hFa (by kernel_rfl) (by kernel_rfl) ?hJa ?hSa ?hEa
 (case hFa => intro t; simp only [putAll, Act.put, List.setIfInBounds_toArray, List.set_cons_zero, List.set_cons_succ, Nat.reduceAdd, Nat.zero_add]; exact rfl)
 case hJa => exact ⟨hH.grow ((Ext.refl _).drew), nof, nof, nof, nof, nof, nof, nof, nof, nof, nof, nof, nof, nof, nof, nof, nof, nof, nof, nof⟩
 case hSa => as_aux_lemma =>
  refine st 1 rfl (fun b t wx hJ hb hd hcl Kc hK => ?_) ?_
  · obtain ⟨hH, hV⟩ := hJ
    have c_k101 := hH.ext.cell k101; have c_hq1a := hH.ext.cell hq1a; have c_hq1b := hH.ext.cell hq1b
    go_simp
    apply sk hK
    · rfl
    exact ⟨hH, rp (fun _ => rfl) hV⟩
  refine st 2 rfl (fun b t wx hJ hb hd hcl Kc hK => ?_) ?_
  · obtain ⟨hH, hV⟩ := hJ
    have d0 := so hd 0; have r0 := hV.1 d0; have c_k101 := hH.ext.cell k101; have c_hq1a := hH.ext.cell hq1a; have c_hq1b := hH.ext.cell hq1b
    go_simp
    apply sk hK
    · (try simp only [r0]); rfl
    exact ⟨hH, jA (rp (fun _ => rfl)) hV⟩
  refine st 3 rfl (fun b t wx hJ hb hd hcl Kc hK => ?_) ?_
  · obtain ⟨hH, hV⟩ := hJ
    have d1 := so hd 1; have r1 := hV.2.1 d1; have c_k101 := hH.ext.cell k101; have c_hq1a := hH.ext.cell hq1a; have c_hq1b := hH.ext.cell hq1b
    go_simp
    apply sk hK
    · (try simp only [r1]); rfl
    exact ⟨hH, jB (rp (fun _ => rfl)) hV⟩
  refine st 4 rfl (fun b t wx hJ hb hd hcl Kc hK => ?_) ?_
  · obtain ⟨hH, hV⟩ := hJ
    have d2 := so hd 2; have r2 := hV.2.2.1 d2; have c_k101 := hH.ext.cell k101; have c_hq1a := hH.ext.cell hq1a; have c_hq1b := hH.ext.cell hq1b
    go_simp
    apply sk hK
    · (try simp only [r2]); rfl
    exact ⟨hH, jB (jA (rp (fun _ => rfl))) hV⟩
  refine st 5 rfl (fun b t wx hJ hb hd hcl Kc hK => ?_) ?_
  · obtain ⟨hH, hV⟩ := hJ
    have c_k101 := hH.ext.cell k101; have c_hq1a := hH.ext.cell hq1a; have c_hq1b := hH.ext.cell hq1b
    go_simp
    apply sk hK
    · rfl
    exact ⟨hH, jD (rp (fun _ => rfl)) hV⟩
  refine st 6 rfl (fun b t wx hJ hb hd hcl Kc hK => ?_) ?_
  · obtain ⟨hH, hV⟩ := hJ
    have d3 := so hd 3; have d4 := so hd 4; have r3 := hV.2.2.2.1 d3; have r4 := hV.2.2.2.2.1 d4; have c_k101 := hH.ext.cell k101; have c_hq1a := hH.ext.cell hq1a; have c_hq1b := hH.ext.cell hq1b
    go_simp
    apply sk hK
    · (try simp only [r3, r4]); rfl
    exact ⟨hH, jD (jA (rp (fun _ => rfl))) hV⟩
  refine st 7 rfl (fun b t wx hJ hb hd hcl Kc hK => ?_) ?_
  · obtain ⟨hH, hV⟩ := hJ
    have d5 := so hd 5; have r5 := hV.2.2.2.2.2.1 d5; have c_k101 := hH.ext.cell k101; have c_hq1a := hH.ext.cell hq1a; have c_hq1b := hH.ext.cell hq1b
    go_simp
    apply sk hK
    · (try simp only [r5]); rfl
    exact ⟨hH, jD (jB (rp (fun _ => rfl))) hV⟩
  refine st 8 rfl (fun b t wx hJ hb hd hcl Kc hK => ?_) ?_
  · obtain ⟨hH, hV⟩ := hJ
    have d6 := so hd 6; have r6 := hV.2.2.2.2.2.2.1 d6; have c_k101 := hH.ext.cell k101; have c_hq1a := hH.ext.cell hq1a; have c_hq1b := hH.ext.cell hq1b
    go_simp
    apply sk hK
    · (try simp only [r6]); rfl
    exact ⟨hH, jD (jB (jA (rp (fun _ => rfl)))) hV⟩
  refine st 9 rfl (fun b t wx hJ hb hd hcl Kc hK => ?_) ?_
  · obtain ⟨hH, hV⟩ := hJ
    have c_k101 := hH.ext.cell k101; have c_hq1a := hH.ext.cell hq1a; have c_hq1b := hH.ext.cell hq1b
    go_simp
    apply sk hK
    · rfl
    exact ⟨hH, jD (jD (rp (fun _ => rfl))) hV⟩
  refine st 10 rfl (fun b t wx hJ hb hd hcl Kc hK => ?_) ?_
  · obtain ⟨hH, hV⟩ := hJ
    have d8 := so hd 8; have r8 := hV.2.2.2.2.2.2.2.2.1 d8; have c_k101 := hH.ext.cell k101; have c_hq1a := hH.ext.cell hq1a; have c_hq1b := hH.ext.cell hq1b
    go_simp
    apply sk hK
    · (try simp only [r8]); rfl
    exact ⟨hH, jD (jD (jA (rp (fun _ => rfl)))) hV⟩
  refine st 11 rfl (fun b t wx hJ hb hd hcl Kc hK => ?_) ?_
  · obtain ⟨hH, hV⟩ := hJ
    have d9 := so hd 9; have r9 := hV.2.2.2.2.2.2.2.2.2.1 d9; have c_k101 := hH.ext.cell k101; have c_hq1a := hH.ext.cell hq1a; have c_hq1b := hH.ext.cell hq1b
    go_simp
    apply sk hK
    · (try simp only [r9]); rfl
    exact ⟨hH, jD (jD (jB (rp (fun _ => rfl)))) hV⟩
  refine st 12 rfl (fun b t wx hJ hb hd hcl Kc hK => ?_) ?_
  · obtain ⟨hH, hV⟩ := hJ
    have d10 := so hd 10; have r10 := hV.2.2.2.2.2.2.2.2.2.2.1 d10; have c_k101 := hH.ext.cell k101; have c_hq1a := hH.ext.cell hq1a; have c_hq1b := hH.ext.cell hq1b
    go_simp
    apply sk hK
    · (try simp only [r10]); rfl
    exact ⟨hH, jD (jD (jB (jA (rp (fun _ => rfl))))) hV⟩
  refine st 13 rfl (fun b t wx hJ hb hd hcl Kc hK => ?_) ?_
  · obtain ⟨hH, hV⟩ := hJ
    have c_k101 := hH.ext.cell k101; have c_hq1a := hH.ext.cell hq1a; have c_hq1b := hH.ext.cell hq1b
    go_simp
    apply sk hK
    · rfl
    exact ⟨hH, jD (jD (jD (rp (fun _ => rfl)))) hV⟩
  refine st 14 rfl (fun b t wx hJ hb hd hcl Kc hK => ?_) ?_
  · obtain ⟨hH, hV⟩ := hJ
    have d11 := so hd 11; have d12 := so hd 12; have r11 := hV.2.2.2.2.2.2.2.2.2.2.2.1 d11; have r12 := hV.2.2.2.2.2.2.2.2.2.2.2.2.1 d12; have c_k101 := hH.ext.cell k101; have c_hq1a := hH.ext.cell hq1a; have c_hq1b := hH.ext.cell hq1b
    go_simp
    apply sk hK
    · (try simp only [r11, r12]); rfl
    exact ⟨hH, jD (jD (jD (jA (rp (fun _ => rfl))))) hV⟩
  refine st 15 rfl (fun b t wx hJ hb hd hcl Kc hK => ?_) ?_
  · obtain ⟨hH, hV⟩ := hJ
    have d13 := so hd 13; have r13 := hV.2.2.2.2.2.2.2.2.2.2.2.2.2.1 d13; have c_k101 := hH.ext.cell k101; have c_hq1a := hH.ext.cell hq1a; have c_hq1b := hH.ext.cell hq1b
    go_simp
    apply sk hK
    · (try simp only [r13]); rfl
    exact ⟨hH, jD (jD (jD (jB (rp (fun _ => rfl))))) hV⟩
  refine st 16 rfl (fun b t wx hJ hb hd hcl Kc hK => ?_) ?_
  · obtain ⟨hH, hV⟩ := hJ
    have d14 := so hd 14; have r14 := hV.2.2.2.2.2.2.2.2.2.2.2.2.2.2.1 d14; have c_k101 := hH.ext.cell k101; have c_hq1a := hH.ext.cell hq1a; have c_hq1b := hH.ext.cell hq1b
    go_simp
    apply sk hK
    · (try simp only [r14]); rfl
    exact ⟨hH, jD (jD (jD (jB (jA (rp (fun _ => rfl)))))) hV⟩
  refine st 17 rfl (fun b t wx hJ hb hd hcl Kc hK => ?_) ?_
  · obtain ⟨hH, hV⟩ := hJ
    have d7 := so hd 7; have d15 := so hd 15; have r7 := hV.2.2.2.2.2.2.2.1 d7; have r15 := hV.2.2.2.2.2.2.2.2.2.2.2.2.2.2.2.1 d15
    have hN := hH; (try simp only [hb, d7, d15, cond_true, cond_false] at hN)
    go_simp
    go_at_call 26
    refine (joinLabels_any _ _ la lb _ (hIa.ext hH.ext) (hIb.ext hH.ext) (by omega) (by omega)).mono ?_; rintro e16 w16 ⟨v16, rfl, o16, h16⟩
    rw [HJN.out] at o16
    obtain ⟨x16, c16, rfl⟩ := o16.shape1 JN.length rfl
    (try go_simp)
    apply sk hK
    · (try simp only [r7, r15]); rfl
    exact ⟨by have hX := hN.addI 0 h16 o16 (Nat.le_refl _); simpa only [List.set_cons_zero, List.set_cons_succ, updB, updV, blkOf_mk, tup0_mk, partsOf3, Nat.reduceBEq, cond_true, cond_false, hb, d7, d15, r7, r15] using hX, jD (jD (jD (jD (rp (fun _ => ⟨_, _, rfl⟩))))) hV⟩
  refine st 18 rfl (fun b t wx hJ hb hd hcl Kc hK => ?_) ?_
  · obtain ⟨hH, hV⟩ := hJ
    have d16 := so hd 16; have r16 := hV.2.2.2.2.2.2.2.2.2.2.2.2.2.2.2.2.1 d16
    obtain ⟨x_16, c_16, r16⟩ := r16
    have c_k101 := hH.ext.cell k101; have c_hq1a := hH.ext.cell hq1a; have c_hq1b := hH.ext.cell hq1b
    go_simp
    apply sk hK
    · (try simp only [r16]); rfl
    exact ⟨hH, jD (jD (jD (jD (jA (rp (fun _ => rfl)))))) hV⟩
  refine st 19 rfl (fun b t wx hJ hb hd hcl Kc hK => ?_) ?_
  · obtain ⟨hH, hV⟩ := hJ
    have c_k101 := hH.ext.cell k101; have c_hq1a := hH.ext.cell hq1a; have c_hq1b := hH.ext.cell hq1b
    go_simp
    apply sk hK
    · rfl
    exact ⟨hH, jD (jD (jD (jD (jB (fun _ => fun _ => rfl))))) hV⟩
  exact AllSteps.nil
 intro b t wa hJ hall
 obtain ⟨hHa, v0, v1, v2, v3, v4, v5, v6, v7, v8, v9, v10, v11, v12, v13, v14, v15, v16, v17, v18⟩ := hJ
 have a0 := hall 0 (by decide); have a1 := hall 1 (by decide); have a2 := hall 2 (by decide); have a3 := hall 3 (by decide); have a4 := hall 4 (by decide); have a5 := hall 5 (by decide); have a6 := hall 6 (by decide); have a7 := hall 7 (by decide); have a8 := hall 8 (by decide); have a9 := hall 9 (by decide); have a10 := hall 10 (by decide); have a11 := hall 11 (by decide); have a12 := hall 12 (by decide); have a13 := hall 13 (by decide); have a14 := hall 14 (by decide); have a15 := hall 15 (by decide); have a16 := hall 16 (by decide); have a17 := hall 17 (by decide); have a18 := hall 18 (by decide)
 (try simp only [a0, a1, a2, a3, a4, a5, a6, a7, a8, a9, a10, a11, a12, a13, a14, a15, a16, a17, a18, cond_true] at hHa)
 replace v0 := v0 a0; replace v1 := v1 a1; replace v2 := v2 a2; replace v3 := v3 a3; replace v4 := v4 a4; replace v5 := v5 a5; replace v6 := v6 a6; replace v7 := v7 a7; replace v8 := v8 a8; replace v9 := v9 a9; replace v10 := v10 a10; replace v11 := v11 a11; replace v12 := v12 a12; replace v13 := v13 a13; replace v14 := v14 a14; replace v15 := v15 a15; replace v16 := v16 a16; replace v17 := v17 a17; replace v18 := v18 a18
 clear hall a0 a1 a2 a3 a4 a5 a6 a7 a8 a9 a10 a11 a12 a13 a14 a15 a16 a17 a18
 generalize t 18 = x18 at hHa v18 ⊢; generalize t 17 = x17 at hHa v17 ⊢; generalize t 16 = x16 at hHa v16 ⊢; generalize t 15 = x15 at hHa v15 ⊢; generalize t 14 = x14 at hHa v14 ⊢; generalize t 13 = x13 at hHa v13 ⊢; generalize t 12 = x12 at hHa v12 ⊢; generalize t 11 = x11 at hHa v11 ⊢; generalize t 10 = x10 at hHa v10 ⊢; generalize t 9 = x9 at hHa v9 ⊢; generalize t 8 = x8 at hHa v8 ⊢; generalize t 7 = x7 at hHa v7 ⊢; generalize t 6 = x6 at hHa v6 ⊢; generalize t 5 = x5 at hHa v5 ⊢; generalize t 4 = x4 at hHa v4 ⊢; generalize t 3 = x3 at hHa v3 ⊢; generalize t 2 = x2 at hHa v2 ⊢; generalize t 1 = x1 at hHa v1 ⊢; generalize t 0 = x0 at hHa v0 ⊢; subst v0; subst v1; subst v2; subst v3; subst v4; subst v5; subst v6; subst v7; subst v8; subst v9; subst v10; subst v11; subst v12; subst v13; subst v14; subst v15
 obtain ⟨xa16, ca16, rfl⟩ := v16
 subst v17; subst v18
 clear b
 replace hH := hHa; clear hHa
 replace hH : Held w wa [aI (.slice xa16 JN.length ca16) JN] := hH
 obtain ⟨w1, rfl⟩ : ∃ q, q = wa := ⟨wa, rfl⟩
 have h1 := hH.ext
 have hJ := hH.ints (k := 0) rfl
 have E1 := Lib.hid h1
 replace hB := hB.ext h1; replace hov := hov.ext h1
 replace hLv := hLv.ext h1
 clear k100 k101 k102 hq0a hq1a hq0b hq1b hIa hIb h1 kst hH
 have k100 := (state_100 HAL.out hB).1
 have k101 := (state_100 HAL.out hB).2.1
 have k102 := (state_100 HAL.out hB).2.2
 have kst := hB.lt
 have hH : Held w1 w1 [] := Held.new (Ext.refl w1) 0
 replace hH := hH.nilI
 replace hH : Held w1 w1 [aI (.slice none 0 0) []] := hH
 have c_k100 := hH.ext.cell k100; have c_k101 := hH.ext.cell k101; have c_k102 := hH.ext.cell k102
 have c_kst := Nat.lt_of_lt_of_le kst hH.ext.size
 go_wp2_with fail
 clear c_k100 c_k101 c_k102 c_kst
 go_loopw [7, 31] (fun vl i wr => ∃ c : Nat, c ≤ JN.length ∧ i = .int .i64 (c : Int) ∧ Held w1 wr [aI vl (keepL (JN.take c) RK)]) (fun vl i wr => JN.length - (RowKit.intOf i).toNat)
 case atStart => exact ⟨0, Nat.zero_le _, rfl, hH⟩
 clear hH
 rename_i vl
 obtain ⟨c, hc, rfl, hH⟩ := hrel
 obtain ⟨KL, hKL⟩ : ∃ q, keepL (JN.take c) RK = q := ⟨_, rfl⟩
 have hkl := keepL_len (JN.take c) RK; rw [List.length_take] at hkl
 rw [hKL] at hH hkl
 have HKL := Lib.hid hKL; clear hKL
 obtain ⟨al, cl, rfl⟩ := (hH.own (k := 0) rfl).shape1 KL.length rfl
 obtain ⟨wq, rfl⟩ : ∃ q, q = wr := ⟨wr, rfl⟩
 by_cases hlt : c < JN.length
 ·
  obtain ⟨bJ, oJ, x, haj, hce, hx, _⟩ := hJ.get hlt
  subst haj
  have HX := Lib.hid hx; clear hx
  have c_k100 := hH.ext.cell k100; have c_k101 := hH.ext.cell k101; have c_k102 := hH.ext.cell k102; have c_hce := hH.ext.cell hce
  have c_kst := Nat.lt_of_lt_of_le kst hH.ext.size
  go_wp2_with fail
  clear c_k100 c_k101 c_k102 c_hce c_kst
  refine (hasInt_any _ op x _ (hov.ext hH.ext)).mono ?_; rintro e2 w2 ⟨rfl, rfl⟩
  obtain ⟨K0, hK0⟩ : ∃ b, hasL op x = b := ⟨_, rfl⟩
  rw [hK0]
  have HK0 : Hid (SE 0 x = K0) := Lib.hid (by rw [HS0.out, hK0])
  clear hK0
  have c_k100 := hH.ext.cell k100; have c_k101 := hH.ext.cell k101; have c_k102 := hH.ext.cell k102; have c_hce := hH.ext.cell hce
  have c_kst := Nat.lt_of_lt_of_le kst hH.ext.size
  go_wp2_with fail
  clear c_k100 c_k101 c_k102 c_hce c_kst
  go_loopw [10, 46] (fun vk i wr => ∃ (q : Nat) (K : Bool), q ≤ m ∧ i = .int .i64 (q : Int) ∧ vk = .bool K ∧ Hid (SE q x = K) ∧ Held w1 wr [aI (.slice al KL.length cl) KL]) (fun vk i wr => m - (RowKit.intOf i).toNat)
  case atStart => exact ⟨0, _, Nat.zero_le _, rfl, rfl, HK0, hH⟩
  clear hH HK0
  obtain ⟨q, K, hq, rfl, rfl, HK, hH⟩ := hrel
  by_cases hlt2 : q < m
  ·
   obtain ⟨bL', oL', c, l, hV, hcj, hlj, hq0, hq1, hI⟩ := hLv.get (i := q) (by rw [HM.out]; exact hlt2)
   cases hV
   obtain ⟨n, u⟩ := c
   simp only at hq0 hq1 hI
   obtain ⟨ea, ec, rfl, _, _⟩ := hI.val
   rw [Nat.mul_comm 2 q] at hq0 hq1
   rw [← Nat.add_assoc] at hq1
   have HC := Lib.hid hcj; have HL := Lib.hid hlj; clear hcj hlj
   have c_k100 := hH.ext.cell k100; have c_k101 := hH.ext.cell k101; have c_k102 := hH.ext.cell k102; have c_hce := hH.ext.cell hce; have c_hq0 := hH.ext.cell hq0; have c_hq1 := hH.ext.cell hq1
   have c_kst := Nat.lt_of_lt_of_le kst hH.ext.size
   go_upto_region 9 with fail
   clear c_k100 c_k101 c_k102 c_hce c_hq0 c_hq1 c_kst
   obtain ⟨hB, hsz⟩ := hH.laid #[.int .i64 n, .slice ea l.length ec] 125
   generalize wr.alloc (.cells #[.int .i64 n, .slice ea l.length ec] 125) = wn1 at hB hsz ⊢
   replace hH : Held w1 wn1 [aI (.slice al KL.length cl) KL, aB (wr.heap.size) 125 [.int .i64 n, .slice ea l.length ec]] := hB
   have HSZwn1 := Lib.hid (show wn1.heap.size = wr.heap.size + 1 by rw [hsz]); clear hB hsz
   by_cases hqi : (q : Int) = (i : Int)
   ·
    have hqi2 : q = i ∨ q = j := .inl (by omega)
    have HE1 := Lib.hid (HSN.out q x hqi2); rw [HK.out] at HE1
    clear hqi2
    have q1_0 := hH.cl 1 0 rfl rfl; have q1_1 := hH.cl 1 1 rfl rfl; have l1_ := hH.bl 1 rfl; have c_k100 := hH.ext.cell k100; have c_k101 := hH.ext.cell k101; have c_k102 := hH.ext.cell k102; have c_hce := hH.ext.cell hce; have c_hq0 := hH.ext.cell hq0; have c_hq1 := hH.ext.cell hq1
    have c_kst := Nat.lt_of_lt_of_le kst hH.ext.size
    go_wp2_with fail
    clear q1_0 q1_1 l1_ c_k100 c_k101 c_k102 c_hce c_hq0 c_hq1 c_kst
    go_roundw
    case rel => exact ⟨q + 1, _, by omega, by go_num, rfl, Lib.hid HE1.out, hH.sub (.cons_cons _ (.cons _ .slnil))⟩
    case measure => simp [RowKit.intOf]; omega
   by_cases hqj : (q : Int) = (j : Int)
   ·
    have hqi2 : q = i ∨ q = j := .inr (by omega)
    have HE1 := Lib.hid (HSN.out q x hqi2); rw [HK.out] at HE1
    clear hqi2
    have q1_0 := hH.cl 1 0 rfl rfl; have q1_1 := hH.cl 1 1 rfl rfl; have l1_ := hH.bl 1 rfl; have c_k100 := hH.ext.cell k100; have c_k101 := hH.ext.cell k101; have c_k102 := hH.ext.cell k102; have c_hce := hH.ext.cell hce; have c_hq0 := hH.ext.cell hq0; have c_hq1 := hH.ext.cell hq1
    have c_kst := Nat.lt_of_lt_of_le kst hH.ext.size
    go_wp2_with fail
    clear q1_0 q1_1 l1_ c_k100 c_k101 c_k102 c_hce c_hq0 c_hq1 c_kst
    go_roundw
    case rel => exact ⟨q + 1, _, by omega, by go_num, rfl, Lib.hid HE1.out, hH.sub (.cons_cons _ (.cons _ .slnil))⟩
    case measure => simp [RowKit.intOf]; omega
   have HE1 := Lib.hid (HSY.out q x (by omega) l HL.out); rw [HK.out] at HE1
   have hbi : ((q : Int) != (i : Int)) = true := by simpa using hqi
   have hbj : ((q : Int) != (j : Int)) = true := by simpa using hqj
   have q1_0 := hH.cl 1 0 rfl rfl; have q1_1 := hH.cl 1 1 rfl rfl; have l1_ := hH.bl 1 rfl; have c_k100 := hH.ext.cell k100; have c_k101 := hH.ext.cell k101; have c_k102 := hH.ext.cell k102; have c_hce := hH.ext.cell hce; have c_hq0 := hH.ext.cell hq0; have c_hq1 := hH.ext.cell hq1
   have c_kst := Nat.lt_of_lt_of_le kst hH.ext.size
   go_wp2_with fail
   clear q1_0 q1_1 l1_ c_k100 c_k101 c_k102 c_hce c_hq0 c_hq1 c_kst
   refine (hasInt_any _ l x _ (hI.ext hH.ext)).mono ?_; rintro e3 w3 ⟨rfl, rfl⟩
   by_cases hx : hasL l x = true
   ·
    rw [hx]
    have HE2 := HE1.out; rw [hx, Bool.or_true] at HE2
    have HE3 := Lib.hid HE2; clear HE2 hx
    have q1_0 := hH.cl 1 0 rfl rfl; have q1_1 := hH.cl 1 1 rfl rfl; have l1_ := hH.bl 1 rfl; have c_k100 := hH.ext.cell k100; have c_k101 := hH.ext.cell k101; have c_k102 := hH.ext.cell k102; have c_hce := hH.ext.cell hce; have c_hq0 := hH.ext.cell hq0; have c_hq1 := hH.ext.cell hq1
    have c_kst := Nat.lt_of_lt_of_le kst hH.ext.size
    go_wp2_with fail
    clear q1_0 q1_1 l1_ c_k100 c_k101 c_k102 c_hce c_hq0 c_hq1 c_kst
    go_roundw
    case rel => exact ⟨q + 1, _, by omega, by go_num, rfl, Lib.hid HE3.out, hH.sub (.cons_cons _ (.cons _ .slnil))⟩
    case measure => simp [RowKit.intOf]; omega
   have hx2 := eq_false_of_ne_true hx; rw [hx2]
   have HE2 := HE1.out; rw [hx2, Bool.or_false] at HE2
   clear hx2
   have HE3 := Lib.hid HE2; clear HE2 hx
   have q1_0 := hH.cl 1 0 rfl rfl; have q1_1 := hH.cl 1 1 rfl rfl; have l1_ := hH.bl 1 rfl; have c_k100 := hH.ext.cell k100; have c_k101 := hH.ext.cell k101; have c_k102 := hH.ext.cell k102; have c_hce := hH.ext.cell hce; have c_hq0 := hH.ext.cell hq0; have c_hq1 := hH.ext.cell hq1
   have c_kst := Nat.lt_of_lt_of_le kst hH.ext.size
   go_wp2_with fail
   clear q1_0 q1_1 l1_ c_k100 c_k101 c_k102 c_hce c_hq0 c_hq1 c_kst
   go_roundw
   case rel => exact ⟨q + 1, _, by omega, by go_num, rfl, Lib.hid HE3.out, hH.sub (.cons_cons _ (.cons _ .slnil))⟩
   case measure => simp [RowKit.intOf]; omega
  have hqe : q = m := by omega
  subst hqe
  have hKE := HSM.out x; rw [HK.out] at hKE
  have HKE := Lib.hid hKE; clear hKE
  obtain ⟨wb, rfl⟩ : ∃ z, z = wr := ⟨wr, rfl⟩
  cases K
  ·
   have HS := Lib.hid (show keepL (JN.take (c + 1)) RK = KL by rw [take_snoc' HX.out, keepL_snoc_no HKE.out.symm, HKL.out])
   have c_k100 := hH.ext.cell k100; have c_k101 := hH.ext.cell k101; have c_k102 := hH.ext.cell k102; have c_hce := hH.ext.cell hce
   have c_kst := Nat.lt_of_lt_of_le kst hH.ext.size
   go_wp2_with fail
   clear c_k100 c_k101 c_k102 c_hce c_kst
   have hHq := hH
   go_roundw
   case rel => exact ⟨c + 1, by omega, by go_num, by rw [HS.out]; exact hHq.sub (.cons_cons _ .slnil)⟩
   case measure => simp [RowKit.intOf]; omega
  have HS := Lib.hid (show keepL (JN.take (c + 1)) RK = KL ++ [x] by rw [take_snoc' HX.out, keepL_snoc_yes HKE.out.symm, HKL.out])
  have c_k100 := hH.ext.cell k100; have c_k101 := hH.ext.cell k101; have c_k102 := hH.ext.cell k102; have c_hce := hH.ext.cell hce
  have c_kst := Nat.lt_of_lt_of_le kst hH.ext.size
  go_wp2_with (at_builtin; refine wpList_app _ rfl _ _ 27 rfl _ _ rfl rfl _ (run_push _ _ w1.heap.size _ KL x (hH.own (k := 0) rfl) (by omega) hH.size) ?_; rintro v6 w6 ⟨o6, g6, n6⟩)
  have hHq := hH.pushed (k := 0) rfl o6 g6 n6
  go_roundw
  case rel => exact ⟨c + 1, by omega, by go_num, by rw [HS.out]; exact hHq.sub (.cons_cons _ .slnil)⟩
  case measure => simp [RowKit.intOf]; omega
 have hce : c = JN.length := by omega
 subst hce
 have HKF : Hid (keepL JN RK = KL) := Lib.hid (by rw [← HKL.out, List.take_length])
 have HO := Lib.hid (hH.own (k := 0) rfl); have HE := Lib.hid hH.ext; clear hH
 go_wp2
 go_ret
 exact ⟨_, rfl, by rw [HKF.out]; exact HO.out.mono E1.out.size, E1.out.trans HE.out⟩
end Go.Proofs.YtlgjddgajdjllaaGreat
