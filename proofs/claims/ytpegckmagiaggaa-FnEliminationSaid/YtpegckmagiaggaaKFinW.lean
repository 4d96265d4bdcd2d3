/- allIn, FinishTensor of the program. -/
import Derived.Test.YtpegckmagiaggaaKNetVX
set_option linter.unusedSimpArgs false
set_option linter.unusedVariables false
namespace Go.Proofs.Ytpegckmagiaggaa
open Go.RowKit
theorem allIn_any (va vb : Value) (a b : List Int) (w : World) (ha : IntS w va a) (hb : IntS w vb b) : Calls Try.prog 145 #[va, vb] w fun e w' =>
 e = .returned (.bool (a.all fun x => hasL b x)) ∧ w = w' := by
 obtain ⟨av, cv, rfl, hc1, hc2⟩ := ha.val
 go_enter Try.func145, Try.ntmps145
 go_wp2_with fail
 go_loop [9] (fun i => ∃ j : Nat, j ≤ a.length ∧ i = .int .i64 j ∧ ((a.drop j).all fun x => hasL b x) = (a.all fun x => hasL b x)) (fun i => a.length - (RowKit.intOf i).toNat)
 case atStart => exact ⟨0, Nat.zero_le _, rfl, rfl⟩
 case round =>
  obtain ⟨j, hj, rfl, hq⟩ := hrel
  by_cases hlt : j < a.length
  · obtain ⟨bX, off, y, rfl, hcell, _, hd⟩ := ha.get hlt
    rw [hd, List.all_cons] at hq
    have HQ := Lib.hid hq; clear hq hd
    go_wp2_with fail
    refine (hasInt_any vb b y _ hb).mono ?_; rintro e1 w1 ⟨rfl, rfl⟩
    by_cases hy : hasL b y = true
    · rw [hy]
      go_wp2_with fail
      go_round
      case rel => exact ⟨j + 1, by omega, by go_num, by rw [← HQ.out, hy, Bool.true_and]⟩
      case measure => simp [RowKit.intOf]; omega
    · have hy2 := eq_false_of_ne_true hy
      have hr2 : (a.all fun x => hasL b x) = false := by rw [← HQ.out, hy2, Bool.false_and]
      have HF := Lib.hid hr2
      rw [hy2]
      clear hr2 hy hy2
      go_wp2
      go_ret
      exact ⟨by rw [HF.out]; rfl, rfl⟩
  · have hje : j = a.length := by omega
    subst hje
    have hr2 : (a.all fun x => hasL b x) = true := by rw [← hq, List.drop_length]; rfl
    have HF := Lib.hid hr2
    clear hr2 hq
    go_wp2
    go_ret
    exact ⟨by rw [HF.out]; rfl, rfl⟩
section
variable {k p n : Int} (hr : ringOk k p n = true)
def finXs (dm : Int → Int) (L op : List Int) (xs : List (El k p n)) : List (El k p n) := permXs hr dm (keepL L op) op (sumXs hr dm L op xs)
end
set_option maxRecDepth 100000 in
set_option maxHeartbeats 4000000 in
theorem finishTensor_any {k p n : Int} (hr : ringOk k p n = true) {dm : Int → Int} {U : List Int} {ts : List (NT k p n)} {op : List Int} (hN : IsN k p n dm U ts op) (tv ov : Value) (w : World) (hT : TensS w tv (ts.map (tenOf dm))) (hO : IntS w ov op) {tL : List Int} {ys : List (El k p n)} (hI : IsT k p n dm U tL ys) (hsub : ∀ x ∈ op, x ∈ tL) (vt : Value) (hVt : TenS w vt tL (tL.map dm) (flat ys)) :
 Calls Try.prog 66 #[.agg #[.int .i64 k, .int .i64 p, .int .i64 n, tv, ov], vt] w fun e w' => ∃ u, e = .returned (.tuple #[u, .bool true]) ∧ OwnT w' w.heap.size u op (op.map dm) (flat (finXs hr dm tL op ys)) ∧ Ext w w' := by
 have hN2 := hN
 have hT0 := hT
 have hO0 := hO
 obtain ⟨m, hm⟩ : ∃ m, ts.length = m := ⟨_, rfl⟩
 obtain ⟨aV, cV, rfl, hcT1, hcT2⟩ := hT.val
 obtain ⟨aO, cO, rfl, hcO1, hcO2⟩ := hO.val
 rw [List.length_map, hm] at hT hT0 hcT1
 rw [List.length_map, hm]
 have hm12 : m ≤ 12 := by rw [← hm]; exact hN.len
 have hop12 : op.length ≤ 12 := hN.rank
 have HM := Lib.hid hm; have HR := Lib.hid hr; have HN := Lib.hid hN; have HD3 := Lib.hid hN.dims3; clear hm  hN
 have hTl : Hid ((ts.map (tenOf dm)).length = m) := Lib.hid (by rw [List.length_map]; exact HM.out)
 have HI := Lib.hid hI
 have HSM := Lib.hid (sum_isT hr hI op)
 have hpm : (keepL tL op).Perm op := (List.perm_ext_iff_of_nodup (hI.sub.keep op).nodup hN2.sub.nodup).2 fun x => by rw [mem_keepL]; exact ⟨fun h => h.2, fun h => ⟨hsub x h, h⟩⟩
 have HPM := Lib.hid hpm
 have HOKT := Lib.hid (hI.yes hr)
 have HALL : Hid ((op.all fun x => hasL tL x) = true) := Lib.hid (List.all_eq_true.2 fun x hx => (hasL_iff _ _).2 (hsub x hx))
 have HTL := Lib.hid hI.ax.rank
 obtain ⟨FX, hFX⟩ : ∃ q, finXs hr dm tL op ys = q := ⟨_, rfl⟩
 rw [hFX]
 have HFX : Hid (permXs hr dm (keepL tL op) op (sumXs hr dm tL op ys) = FX) := Lib.hid hFX
 clear hFX hpm hsub hI hN2
 obtain ⟨g1, m1, i1, g2, m2, i2, g3, m3, i3, rfl⟩ := hVt.shape
 obtain ⟨_, _, _, hvv, htL, htD, htX⟩ := hVt.val
 simp at hvv
 obtain ⟨rfl, rfl, rfl⟩ := hvv
 go_enter Try.func66, Try.ntmps66
 go_upto_region 1 with fail
 have hH : Held w w [] := Held.new (Ext.refl w) 0
 have hB : Held w (w.alloc (.cells #[.int .i64 k, .int .i64 p, .int .i64 n, .slice aV m cV, .slice aO op.length cO] 29)) [aB (w.heap.size) 29 [.int .i64 k, .int .i64 p, .int .i64 n, .slice aV m cV, .slice aO op.length cO]] := by
  have h := (hH.mores 1).addB 0 #[.int .i64 k, .int .i64 p, .int .i64 n, .slice aV m cV, .slice aO op.length cO] 29
  exact h
 have hsz : (w.alloc (.cells #[.int .i64 k, .int .i64 p, .int .i64 n, .slice aV m cV, .slice aO op.length cO] 29)).heap.size = w.heap.size + 1 := by simp
 generalize w.alloc (.cells #[.int .i64 k, .int .i64 p, .int .i64 n, .slice aV m cV, .slice aO op.length cO] 29) = wn1 at hB hsz ⊢
 replace hH := hB; have HSZwn1 := Lib.hid hsz; clear hB hsz
 have hB : Held w (wn1.alloc (.cells #[.slice g1 m1 i1, .slice g2 m2 i2, .slice g3 m3 i3] 32)) [aB (w.heap.size) 29 [.int .i64 k, .int .i64 p, .int .i64 n, .slice aV m cV, .slice aO op.length cO], aB (w.heap.size + 1) 32 [.slice g1 m1 i1, .slice g2 m2 i2, .slice g3 m3 i3]] := by
  have h := (hH.mores 1).addB 1 #[.slice g1 m1 i1, .slice g2 m2 i2, .slice g3 m3 i3] 32
  rw [HSZwn1.out] at h
  exact h
 have hsz : (wn1.alloc (.cells #[.slice g1 m1 i1, .slice g2 m2 i2, .slice g3 m3 i3] 32)).heap.size = w.heap.size + 1 + 1 := by rw [← HSZwn1.out]; simp
 generalize wn1.alloc (.cells #[.slice g1 m1 i1, .slice g2 m2 i2, .slice g3 m3 i3] 32) = wn2 at hB hsz ⊢
 replace hH := hB; have HSZwn2 := Lib.hid hsz; clear hB hsz
 have hB : Held w (wn2.alloc (.cells #[.slice none 0 0, .slice none 0 0, .slice none 0 0] 32)) [aB (w.heap.size) 29 [.int .i64 k, .int .i64 p, .int .i64 n, .slice aV m cV, .slice aO op.length cO], aB (w.heap.size + 1) 32 [.slice g1 m1 i1, .slice g2 m2 i2, .slice g3 m3 i3], aB (w.heap.size + 1 + 1) 32 [.slice none 0 0, .slice none 0 0, .slice none 0 0]] := by
  have h := (hH.mores 1).addB 2 #[.slice none 0 0, .slice none 0 0, .slice none 0 0] 32
  rw [HSZwn2.out] at h
  exact h
 have hsz : (wn2.alloc (.cells #[.slice none 0 0, .slice none 0 0, .slice none 0 0] 32)).heap.size = w.heap.size + 1 + 1 + 1 := by rw [← HSZwn2.out]; simp
 generalize wn2.alloc (.cells #[.slice none 0 0, .slice none 0 0, .slice none 0 0] 32) = wn3 at hB hsz ⊢
 replace hH := hB; have HSZwn3 := Lib.hid hsz; clear hB hsz
 have q0_0 := hH.cl 0 0 rfl rfl; have q0_1 := hH.cl 0 1 rfl rfl; have q0_2 := hH.cl 0 2 rfl rfl; have q0_3 := hH.cl 0 3 rfl rfl; have q0_4 := hH.cl 0 4 rfl rfl; have l0_ := hH.bl 0 rfl; have q1_0 := hH.cl 1 0 rfl rfl; have q1_1 := hH.cl 1 1 rfl rfl; have q1_2 := hH.cl 1 2 rfl rfl; have l1_ := hH.bl 1 rfl; have q2_0 := hH.cl 2 0 rfl rfl; have q2_1 := hH.cl 2 1 rfl rfl; have q2_2 := hH.cl 2 2 rfl rfl; have l2_ := hH.bl 2 rfl
 go_wp2_with fail
 clear q0_0 q0_1 q0_2 q0_3 q0_4 l0_ q1_0 q1_1 q1_2 l1_ q2_0 q2_1 q2_2 l2_
 refine (networkOk_any HR.out HN.out _ _ _ (hT0.ext hH.ext) (hO0.ext hH.ext)).mono ?_; rintro e0 w0 ⟨rfl, h0⟩
 replace hH := hH.grow h0; clear h0
 have q0_0 := hH.cl 0 0 rfl rfl; have q0_1 := hH.cl 0 1 rfl rfl; have q0_2 := hH.cl 0 2 rfl rfl; have q0_3 := hH.cl 0 3 rfl rfl; have q0_4 := hH.cl 0 4 rfl rfl; have l0_ := hH.bl 0 rfl; have q1_0 := hH.cl 1 0 rfl rfl; have q1_1 := hH.cl 1 1 rfl rfl; have q1_2 := hH.cl 1 2 rfl rfl; have l1_ := hH.bl 1 rfl; have q2_0 := hH.cl 2 0 rfl rfl; have q2_1 := hH.cl 2 1 rfl rfl; have q2_2 := hH.cl 2 2 rfl rfl; have l2_ := hH.bl 2 rfl
 go_wp2_with fail
 clear q0_0 q0_1 q0_2 q0_3 q0_4 l0_ q1_0 q1_1 q1_2 l1_ q2_0 q2_1 q2_2 l2_
 refine (tensorOk_impl k p n _ tL (tL.map dm) (flat ys) _ (hVt.ext hH.ext)).mono ?_; rintro e1 w1 ⟨rfl, h1⟩
 rw [HOKT.out]
 replace hH := hH.grow h1; clear h1
 have q0_0 := hH.cl 0 0 rfl rfl; have q0_1 := hH.cl 0 1 rfl rfl; have q0_2 := hH.cl 0 2 rfl rfl; have q0_3 := hH.cl 0 3 rfl rfl; have q0_4 := hH.cl 0 4 rfl rfl; have l0_ := hH.bl 0 rfl; have q1_0 := hH.cl 1 0 rfl rfl; have q1_1 := hH.cl 1 1 rfl rfl; have q1_2 := hH.cl 1 2 rfl rfl; have l1_ := hH.bl 1 rfl; have q2_0 := hH.cl 2 0 rfl rfl; have q2_1 := hH.cl 2 1 rfl rfl; have q2_2 := hH.cl 2 2 rfl rfl; have l2_ := hH.bl 2 rfl
 go_wp2_with fail
 clear q0_0 q0_1 q0_2 q0_3 q0_4 l0_ q1_0 q1_1 q1_2 l1_ q2_0 q2_1 q2_2 l2_
 refine (allIn_any _ _ op tL _ (hO.ext hH.ext) (htL.ext hH.ext)).mono ?_; rintro e2 w2 ⟨rfl, rfl⟩
 rw [HALL.out]
 have q0_0 := hH.cl 0 0 rfl rfl; have q0_1 := hH.cl 0 1 rfl rfl; have q0_2 := hH.cl 0 2 rfl rfl; have q0_3 := hH.cl 0 3 rfl rfl; have q0_4 := hH.cl 0 4 rfl rfl; have l0_ := hH.bl 0 rfl; have q1_0 := hH.cl 1 0 rfl rfl; have q1_1 := hH.cl 1 1 rfl rfl; have q1_2 := hH.cl 1 2 rfl rfl; have l1_ := hH.bl 1 rfl; have q2_0 := hH.cl 2 0 rfl rfl; have q2_1 := hH.cl 2 1 rfl rfl; have q2_2 := hH.cl 2 2 rfl rfl; have l2_ := hH.bl 2 rfl
 go_upto_region 3 with fail
 clear q0_0 q0_1 q0_2 q0_3 q0_4 l0_ q1_0 q1_1 q1_2 l1_ q2_0 q2_1 q2_2 l2_
 replace hH := hH.mores 2
 replace hH : Held w w1 [aB (w.heap.size) 29 [.int .i64 k, .int .i64 p, .int .i64 n, .slice aV m cV, .slice aO op.length cO], aB (w.heap.size + 1) 32 [.slice g1 m1 i1, .slice g2 m2 i2, .slice g3 m3 i3], aB (w.heap.size + 1 + 1) 32 [.slice none 0 0, .slice none 0 0, .slice none 0 0], emp, emp] := hH
 refine wp_region_steps ?Fa (fun b t wx => Held w wx [aB (w.heap.size) 29 [.int .i64 k, .int .i64 p, .int .i64 n, .slice aV m cV, .slice aO op.length cO], aB (w.heap.size + 1) 32 [.slice g1 m1 i1, .slice g2 m2 i2, .slice g3 m3 i3], (bif b 13 then aB (w.heap.size + 1 + 1) 32 (partsOf (t 11)) else aB (w.heap.size + 1 + 1) 32 [.slice none 0 0, .slice none 0 0, .slice none 0 0]), (bif b 7 then aT (t 7) (keepL tL op) ((keepL tL op).map dm) (flat (sumXs hr dm tL op ys)) else emp), (bif b 10 then aT (tup0 (t 10)) op (op.map dm) (flat FX) else emp)] ∧ (b 0 = true → t 0 = .pointer (some ⟨w.heap.size, 0, none⟩)) ∧ (b 1 = true → t 1 = .agg #[.int .i64 k, .int .i64 p, .int .i64 n]) ∧ (b 2 = true → t 2 = .pointer (some ⟨w.heap.size, 0, none⟩)) ∧ (b 3 = true → t 3 = .agg #[.int .i64 k, .int .i64 p, .int .i64 n]) ∧ (b 4 = true → t 4 = .agg #[.slice g1 m1 i1, .slice g2 m2 i2, .slice g3 m3 i3]) ∧ (b 5 = true → t 5 = .pointer (some ⟨w.heap.size, 4, none⟩)) ∧ (b 6 = true → t 6 = .slice aO op.length cO) ∧ (b 7 = true → ∃ p1 n1 c1 p2 n2 c2 p3 n3 c3, t 7 = .agg #[.slice p1 n1 c1, .slice p2 n2 c2, .slice p3 n3 c3]) ∧ (b 8 = true → t 8 = .pointer (some ⟨w.heap.size, 4, none⟩)) ∧ (b 9 = true → t 9 = .slice aO op.length cO) ∧ (b 10 = true → ∃ p1 n1 c1 p2 n2 c2 p3 n3 c3, t 10 = .tuple #[.agg #[.slice p1 n1 c1, .slice p2 n2 c2, .slice p3 n3 c3], .bool true]) ∧ (b 11 = true → t 11 = tup0 (t 10)) ∧ (b 12 = true → t 12 = .bool true) ∧ (b 14 = true → t 14 = .bool true)) ?hFa (by kernel_rfl) (by kernel_rfl) ?hJa ?hSa ?hEa
 (case hFa => intro t; simp only [putAll, Act.put, List.setIfInBounds_toArray, List.set_cons_zero, List.set_cons_succ, Nat.reduceAdd, Nat.zero_add]; exact rfl)
 case hJa => exact ⟨hH.grow ((Ext.refl _).drew), fun h => absurd h Bool.false_ne_true, fun h => absurd h Bool.false_ne_true, fun h => absurd h Bool.false_ne_true, fun h => absurd h Bool.false_ne_true, fun h => absurd h Bool.false_ne_true, fun h => absurd h Bool.false_ne_true, fun h => absurd h Bool.false_ne_true, fun h => absurd h Bool.false_ne_true, fun h => absurd h Bool.false_ne_true, fun h => absurd h Bool.false_ne_true, fun h => absurd h Bool.false_ne_true, fun h => absurd h Bool.false_ne_true, fun h => absurd h Bool.false_ne_true, fun h => absurd h Bool.false_ne_true⟩
 case hSa => as_aux_lemma =>
   refine AllSteps.cons (j := 1) rfl (fun b t wx hJ hb hd hcl Kc hK => ?_) ?_
   · obtain ⟨hH, v0, v1, v2, v3, v4, v5, v6, v7, v8, v9, v10, v11, v12, v14⟩ := hJ
     go_simp
     refine hK.out _ ?_ _ ?_ ?_; rotate_left 2
     · rfl
     exact ⟨hH, fun _ => rfl, v1, v2, v3, v4, v5, v6, v7, v8, v9, v10, v11, v12, v14⟩
   refine AllSteps.cons (j := 2) rfl (fun b t wx hJ hb hd hcl Kc hK => ?_) ?_
   · obtain ⟨hH, v0, v1, v2, v3, v4, v5, v6, v7, v8, v9, v10, v11, v12, v14⟩ := hJ
     have d0 := hd.out 0 (by kernel_rfl); have r0 := v0 d0; have q0_0 := hH.cl 0 0 rfl rfl; have q0_1 := hH.cl 0 1 rfl rfl; have q0_2 := hH.cl 0 2 rfl rfl
     go_simp
     refine hK.out _ ?_ _ ?_ ?_; rotate_left 2
     · (try simp only [r0]); rfl
     exact ⟨hH, v0, fun _ => rfl, v2, v3, v4, v5, v6, v7, v8, v9, v10, v11, v12, v14⟩
   refine AllSteps.cons (j := 3) rfl (fun b t wx hJ hb hd hcl Kc hK => ?_) ?_
   · obtain ⟨hH, v0, v1, v2, v3, v4, v5, v6, v7, v8, v9, v10, v11, v12, v14⟩ := hJ
     go_simp
     refine hK.out _ ?_ _ ?_ ?_; rotate_left 2
     · rfl
     exact ⟨hH, v0, v1, fun _ => rfl, v3, v4, v5, v6, v7, v8, v9, v10, v11, v12, v14⟩
   refine AllSteps.cons (j := 4) rfl (fun b t wx hJ hb hd hcl Kc hK => ?_) ?_
   · obtain ⟨hH, v0, v1, v2, v3, v4, v5, v6, v7, v8, v9, v10, v11, v12, v14⟩ := hJ
     have d2 := hd.out 2 (by kernel_rfl); have r2 := v2 d2; have q0_0 := hH.cl 0 0 rfl rfl; have q0_1 := hH.cl 0 1 rfl rfl; have q0_2 := hH.cl 0 2 rfl rfl
     go_simp
     refine hK.out _ ?_ _ ?_ ?_; rotate_left 2
     · (try simp only [r2]); rfl
     exact ⟨hH, v0, v1, v2, fun _ => rfl, v4, v5, v6, v7, v8, v9, v10, v11, v12, v14⟩
   refine AllSteps.cons (j := 5) rfl (fun b t wx hJ hb hd hcl Kc hK => ?_) ?_
   · obtain ⟨hH, v0, v1, v2, v3, v4, v5, v6, v7, v8, v9, v10, v11, v12, v14⟩ := hJ
     have q1_0 := hH.cl 1 0 rfl rfl; have q1_1 := hH.cl 1 1 rfl rfl; have q1_2 := hH.cl 1 2 rfl rfl
     go_simp
     refine hK.out _ ?_ _ ?_ ?_; rotate_left 2
     · rfl
     exact ⟨hH, v0, v1, v2, v3, fun _ => rfl, v5, v6, v7, v8, v9, v10, v11, v12, v14⟩
   refine AllSteps.cons (j := 6) rfl (fun b t wx hJ hb hd hcl Kc hK => ?_) ?_
   · obtain ⟨hH, v0, v1, v2, v3, v4, v5, v6, v7, v8, v9, v10, v11, v12, v14⟩ := hJ
     go_simp
     refine hK.out _ ?_ _ ?_ ?_; rotate_left 2
     · rfl
     exact ⟨hH, v0, v1, v2, v3, v4, fun _ => rfl, v6, v7, v8, v9, v10, v11, v12, v14⟩
   refine AllSteps.cons (j := 7) rfl (fun b t wx hJ hb hd hcl Kc hK => ?_) ?_
   · obtain ⟨hH, v0, v1, v2, v3, v4, v5, v6, v7, v8, v9, v10, v11, v12, v14⟩ := hJ
     have d5 := hd.out 5 (by kernel_rfl); have r5 := v5 d5; have q0_4 := hH.cl 0 4 rfl rfl
     go_simp
     refine hK.out _ ?_ _ ?_ ?_; rotate_left 2
     · (try simp only [r5]); rfl
     exact ⟨hH, v0, v1, v2, v3, v4, v5, fun _ => rfl, v7, v8, v9, v10, v11, v12, v14⟩
   refine AllSteps.cons (j := 8) rfl (fun b t wx hJ hb hd hcl Kc hK => ?_) ?_
   · obtain ⟨hH, v0, v1, v2, v3, v4, v5, v6, v7, v8, v9, v10, v11, v12, v14⟩ := hJ
     have d3 := hd.out 3 (by kernel_rfl); have d4 := hd.out 4 (by kernel_rfl); have d6 := hd.out 6 (by kernel_rfl); have r3 := v3 d3; have r4 := v4 d4; have r6 := v6 d6
     have hN := hH; (try simp only [hb, d3, d4, d6, cond_true, cond_false] at hN)
     go_simp
     go_at_call 33
     refine (sumLabels_any HR.out HI.out op _ _ _ (hVt.ext hH.ext) (hO.ext hH.ext)).mono ?_; rintro e7 w7 ⟨v7, rfl, o7, h7⟩
     obtain ⟨pa1, na1, ca1, pa2, na2, ca2, pa3, na3, ca3, rfl⟩ := o7.shape
     (try go_simp)
     refine hK.out _ ?_ _ ?_ ?_; rotate_left 2
     · (try simp only [r3, r4, r6]); rfl
     exact ⟨by have hX := hN.addT 3 h7 o7 (Nat.le_refl _); simpa only [List.set_cons_zero, List.set_cons_succ, updB, updV, blkOf_mk, tup0_mk, partsOf3, Nat.reduceBEq, cond_true, cond_false, hb, d3, d4, d6, r3, r4, r6] using hX, v0, v1, v2, v3, v4, v5, v6, fun _ => ⟨_, _, _, _, _, _, _, _, _, rfl⟩, v8, v9, v10, v11, v12, v14⟩
   refine AllSteps.cons (j := 9) rfl (fun b t wx hJ hb hd hcl Kc hK => ?_) ?_
   · obtain ⟨hH, v0, v1, v2, v3, v4, v5, v6, v7, v8, v9, v10, v11, v12, v14⟩ := hJ
     go_simp
     refine hK.out _ ?_ _ ?_ ?_; rotate_left 2
     · rfl
     exact ⟨hH, v0, v1, v2, v3, v4, v5, v6, v7, fun _ => rfl, v9, v10, v11, v12, v14⟩
   refine AllSteps.cons (j := 10) rfl (fun b t wx hJ hb hd hcl Kc hK => ?_) ?_
   · obtain ⟨hH, v0, v1, v2, v3, v4, v5, v6, v7, v8, v9, v10, v11, v12, v14⟩ := hJ
     have d8 := hd.out 8 (by kernel_rfl); have r8 := v8 d8; have q0_4 := hH.cl 0 4 rfl rfl
     go_simp
     refine hK.out _ ?_ _ ?_ ?_; rotate_left 2
     · (try simp only [r8]); rfl
     exact ⟨hH, v0, v1, v2, v3, v4, v5, v6, v7, v8, fun _ => rfl, v10, v11, v12, v14⟩
   refine AllSteps.cons (j := 11) rfl (fun b t wx hJ hb hd hcl Kc hK => ?_) ?_
   · obtain ⟨hH, v0, v1, v2, v3, v4, v5, v6, v7, v8, v9, v10, v11, v12, v14⟩ := hJ
     have d1 := hd.out 1 (by kernel_rfl); have d7 := hd.out 7 (by kernel_rfl); have d9 := hd.out 9 (by kernel_rfl)
     have n11 : b 11 = false := Bool.eq_false_iff.2 fun h => absurd (hcl.out 11 10 (by kernel_rfl) (h)) (by rw [hb]; exact Bool.false_ne_true)
     have r1 := v1 d1; have r7 := v7 d7; have r9 := v9 d9
     obtain ⟨p1_7, n1_7, c1_7, p2_7, n2_7, c2_7, p3_7, n3_7, c3_7, r7⟩ := r7
     have hN := hH; (try simp only [hb, d1, d7, d9, n11, cond_true, cond_false] at hN)
     rw [r7] at hN -- d7
     go_simp
     go_at_call 48
     refine (permuteTensor_any HR.out HSM.out HPM.out _ _ _ (hN.tens (k := 3) rfl) (hO.ext hH.ext)).mono ?_; rintro e10 w10 ⟨v10, rfl, o10, h10⟩
     rw [HFX.out] at o10
     obtain ⟨pb1, nb1, cb1, pb2, nb2, cb2, pb3, nb3, cb3, rfl⟩ := o10.shape
     (try go_simp)
     refine hK.out _ ?_ _ ?_ ?_; rotate_left 2
     · (try simp only [r1, r7, r9]); rfl
     exact ⟨by have hX := hN.addT 4 h10 o10 (Nat.le_refl _); simpa only [List.set_cons_zero, List.set_cons_succ, updB, updV, blkOf_mk, tup0_mk, partsOf3, Nat.reduceBEq, cond_true, cond_false, hb, d1, d7, d9, n11, r1, r7, r9] using hX, v0, v1, v2, v3, v4, v5, v6, v7, v8, v9, fun _ => ⟨_, _, _, _, _, _, _, _, _, rfl⟩, fun h => absurd (show b 11 = true from h) (by rw [n11]; exact Bool.false_ne_true), v12, v14⟩
   refine AllSteps.cons (j := 12) rfl (fun b t wx hJ hb hd hcl Kc hK => ?_) ?_
   · obtain ⟨hH, v0, v1, v2, v3, v4, v5, v6, v7, v8, v9, v10, v11, v12, v14⟩ := hJ
     have d10 := hd.out 10 (by kernel_rfl)
     have n13 : b 13 = false := Bool.eq_false_iff.2 fun h => absurd (hcl.out 13 11 (by kernel_rfl) (h)) (by rw [hb]; exact Bool.false_ne_true)
     have r10 := v10 d10
     obtain ⟨p1_10, n1_10, c1_10, p2_10, n2_10, c2_10, p3_10, n3_10, c3_10, r10⟩ := r10
     have hN := hH; (try simp only [hb, d10, n13, cond_true, cond_false] at hN)
     have e10 := r10 -- d10
     go_simp
     refine hK.out _ ?_ _ ?_ ?_; rotate_left 2
     · (try simp only [r10]); rfl
     exact ⟨by have hX := hN; simpa only [List.set_cons_zero, List.set_cons_succ, updB, updV, blkOf_mk, tup0_mk, partsOf3, Nat.reduceBEq, cond_true, cond_false, hb, d10, n13, r10] using hX, v0, v1, v2, v3, v4, v5, v6, v7, v8, v9, v10, fun _ => (by show _ = tup0 (t 10); rw [r10]; rfl), v12, v14⟩
   refine AllSteps.cons (j := 13) rfl (fun b t wx hJ hb hd hcl Kc hK => ?_) ?_
   · obtain ⟨hH, v0, v1, v2, v3, v4, v5, v6, v7, v8, v9, v10, v11, v12, v14⟩ := hJ
     have d10 := hd.out 10 (by kernel_rfl); have r10 := v10 d10
     obtain ⟨p1_10, n1_10, c1_10, p2_10, n2_10, c2_10, p3_10, n3_10, c3_10, r10⟩ := r10
     have e10 := r10 -- d10
     go_simp
     refine hK.out _ ?_ _ ?_ ?_; rotate_left 2
     · (try simp only [r10]); rfl
     exact ⟨hH, v0, v1, v2, v3, v4, v5, v6, v7, v8, v9, v10, v11, fun _ => rfl, v14⟩
   refine AllSteps.cons (j := 14) rfl (fun b t wx hJ hb hd hcl Kc hK => ?_) ?_
   · obtain ⟨hH, v0, v1, v2, v3, v4, v5, v6, v7, v8, v9, v10, v11, v12, v14⟩ := hJ
     have d0 := hd.out 0 (by kernel_rfl); have d1 := hd.out 1 (by kernel_rfl); have d2 := hd.out 2 (by kernel_rfl); have d3 := hd.out 3 (by kernel_rfl); have d4 := hd.out 4 (by kernel_rfl); have d5 := hd.out 5 (by kernel_rfl); have d6 := hd.out 6 (by kernel_rfl); have d7 := hd.out 7 (by kernel_rfl); have d8 := hd.out 8 (by kernel_rfl); have d9 := hd.out 9 (by kernel_rfl); have d10 := hd.out 10 (by kernel_rfl); have d11 := hd.out 11 (by kernel_rfl); have d12 := hd.out 12 (by kernel_rfl); have r0 := v0 d0; have r1 := v1 d1; have r2 := v2 d2; have r3 := v3 d3; have r4 := v4 d4; have r5 := v5 d5; have r6 := v6 d6; have r7 := v7 d7; have r8 := v8 d8; have r9 := v9 d9; have r10 := v10 d10; have r11 := v11 d11; have r12 := v12 d12
     obtain ⟨p1_7, n1_7, c1_7, p2_7, n2_7, c2_7, p3_7, n3_7, c3_7, r7⟩ := r7
     obtain ⟨p1_10, n1_10, c1_10, p2_10, n2_10, c2_10, p3_10, n3_10, c3_10, r10⟩ := r10
     have hN := hH; (try simp only [hb, d0, d1, d2, d3, d4, d5, d6, d7, d8, d9, d10, d11, d12, cond_true, cond_false] at hN)
     rw [r10, tup0_mk] at r11 -- d10 d11
     have B := hN.blk (k := 2) rfl
     have f0 := B.free 0; have f1 := B.free 1; have f2 := B.free 2; have z0 := B.cell (j := 0) rfl; have z1 := B.cell (j := 1) rfl; have z2 := B.cell (j := 2) rfl; have lB := B.lt; have hmk0 := @tup0_mk
     go_simp
     refine hK.out _ undef _ ?_ ?_; rotate_left 1
     · (try simp only [r0, r1, r2, r3, r4, r5, r6, r7, r8, r9, r10, r11, r12]); rfl
     exact ⟨by have hX := hN.setB3' (k := 2) rfl (.slice p1_10 n1_10 c1_10) (.slice p2_10 n2_10 c2_10) (.slice p3_10 n3_10 c3_10); simpa only [List.set_cons_zero, List.set_cons_succ, updB, updV, blkOf_mk, tup0_mk, partsOf3, Nat.reduceBEq, cond_true, cond_false, hb, d0, d1, d2, d3, d4, d5, d6, d7, d8, d9, d10, d11, d12, r0, r1, r2, r3, r4, r5, r6, r7, r8, r9, r10, r11, r12] using hX, v0, v1, v2, v3, v4, v5, v6, v7, v8, v9, v10, v11, v12, v14⟩
   refine AllSteps.cons (j := 15) rfl (fun b t wx hJ hb hd hcl Kc hK => ?_) ?_
   · obtain ⟨hH, v0, v1, v2, v3, v4, v5, v6, v7, v8, v9, v10, v11, v12, v14⟩ := hJ
     have d0 := hd.out 0 (by kernel_rfl); have d1 := hd.out 1 (by kernel_rfl); have d2 := hd.out 2 (by kernel_rfl); have d3 := hd.out 3 (by kernel_rfl); have d4 := hd.out 4 (by kernel_rfl); have d5 := hd.out 5 (by kernel_rfl); have d6 := hd.out 6 (by kernel_rfl); have d7 := hd.out 7 (by kernel_rfl); have d8 := hd.out 8 (by kernel_rfl); have d9 := hd.out 9 (by kernel_rfl); have d10 := hd.out 10 (by kernel_rfl); have d11 := hd.out 11 (by kernel_rfl); have d12 := hd.out 12 (by kernel_rfl); have d13 := hd.out 13 (by kernel_rfl); have r0 := v0 d0; have r1 := v1 d1; have r2 := v2 d2; have r3 := v3 d3; have r4 := v4 d4; have r5 := v5 d5; have r6 := v6 d6; have r7 := v7 d7; have r8 := v8 d8; have r9 := v9 d9; have r10 := v10 d10; have r11 := v11 d11; have r12 := v12 d12
     obtain ⟨p1_7, n1_7, c1_7, p2_7, n2_7, c2_7, p3_7, n3_7, c3_7, r7⟩ := r7
     obtain ⟨p1_10, n1_10, c1_10, p2_10, n2_10, c2_10, p3_10, n3_10, c3_10, r10⟩ := r10
     go_simp
     refine hK.out _ ?_ _ ?_ ?_; rotate_left 2
     · (try simp only [r0, r1, r2, r3, r4, r5, r6, r7, r8, r9, r10, r11, r12]); rfl
     exact ⟨hH, v0, v1, v2, v3, v4, v5, v6, v7, v8, v9, v10, v11, v12, fun _ => rfl⟩
   exact AllSteps.nil
 case hEa =>
  intro b t wa hJ hall
  obtain ⟨hHa, v0, v1, v2, v3, v4, v5, v6, v7, v8, v9, v10, v11, v12, v14⟩ := hJ
  have a0 := hall 0 (by decide); have a1 := hall 1 (by decide); have a2 := hall 2 (by decide); have a3 := hall 3 (by decide); have a4 := hall 4 (by decide); have a5 := hall 5 (by decide); have a6 := hall 6 (by decide); have a7 := hall 7 (by decide); have a8 := hall 8 (by decide); have a9 := hall 9 (by decide); have a10 := hall 10 (by decide); have a11 := hall 11 (by decide); have a12 := hall 12 (by decide); have a13 := hall 13 (by decide); have a14 := hall 14 (by decide)
  (try simp only [a0, a1, a2, a3, a4, a5, a6, a7, a8, a9, a10, a11, a12, a13, a14, cond_true] at hHa)
  replace v0 := v0 a0; replace v1 := v1 a1; replace v2 := v2 a2; replace v3 := v3 a3; replace v4 := v4 a4; replace v5 := v5 a5; replace v6 := v6 a6; replace v7 := v7 a7; replace v8 := v8 a8; replace v9 := v9 a9; replace v10 := v10 a10; replace v11 := v11 a11; replace v12 := v12 a12; replace v14 := v14 a14
  clear hall a0 a1 a2 a3 a4 a5 a6 a7 a8 a9 a10 a11 a12 a13 a14
  generalize t 14 = x14 at hHa v14 ⊢; generalize t 12 = x12 at hHa v12 ⊢; generalize t 11 = x11 at hHa v11 ⊢; generalize t 10 = x10 at hHa v10 v11 ⊢; generalize t 9 = x9 at hHa v9 ⊢; generalize t 8 = x8 at hHa v8 ⊢; generalize t 7 = x7 at hHa v7 ⊢; generalize t 6 = x6 at hHa v6 ⊢; generalize t 5 = x5 at hHa v5 ⊢; generalize t 4 = x4 at hHa v4 ⊢; generalize t 3 = x3 at hHa v3 ⊢; generalize t 2 = x2 at hHa v2 ⊢; generalize t 1 = x1 at hHa v1 ⊢; generalize t 0 = x0 at hHa v0 ⊢; subst v0; subst v1; subst v2; subst v3; subst v4; subst v5; subst v6
  obtain ⟨p1a7, n1a7, c1a7, p2a7, n2a7, c2a7, p3a7, n3a7, c3a7, rfl⟩ := v7
  subst v8; subst v9
  obtain ⟨p1a10, n1a10, c1a10, p2a10, n2a10, c2a10, p3a10, n3a10, c3a10, rfl⟩ := v10
  subst v11; subst v12; subst v14
  simp only [blkOf_mk, tup0_mk, partsOf3] at hHa
  clear b
  replace hH := hHa; clear hHa
  replace hH : Held w wa [aB (w.heap.size) 29 [.int .i64 k, .int .i64 p, .int .i64 n, .slice aV m cV, .slice aO op.length cO], aB (w.heap.size + 1) 32 [.slice g1 m1 i1, .slice g2 m2 i2, .slice g3 m3 i3], aB (w.heap.size + 1 + 1) 32 [.slice p1a10 n1a10 c1a10, .slice p2a10 n2a10 c2a10, .slice p3a10 n3a10 c3a10], aT (.agg #[.slice p1a7 n1a7 c1a7, .slice p2a7 n2a7 c2a7, .slice p3a7 n3a7 c3a7]) (keepL tL op) ((keepL tL op).map dm) (flat (sumXs hr dm tL op ys)), aT (.agg #[.slice p1a10 n1a10 c1a10, .slice p2a10 n2a10 c2a10, .slice p3a10 n3a10 c3a10]) op (op.map dm) (flat FX)] := hH
  have q0_0 := hH.cl 0 0 rfl rfl; have q0_1 := hH.cl 0 1 rfl rfl; have q0_2 := hH.cl 0 2 rfl rfl; have q0_3 := hH.cl 0 3 rfl rfl; have q0_4 := hH.cl 0 4 rfl rfl; have l0_ := hH.bl 0 rfl; have q1_0 := hH.cl 1 0 rfl rfl; have q1_1 := hH.cl 1 1 rfl rfl; have q1_2 := hH.cl 1 2 rfl rfl; have l1_ := hH.bl 1 rfl; have q2_0 := hH.cl 2 0 rfl rfl; have q2_1 := hH.cl 2 1 rfl rfl; have q2_2 := hH.cl 2 2 rfl rfl; have l2_ := hH.bl 2 rfl
  go_wp2_with fail
  refine bodyPost_ret (v := .tuple #[.agg #[.slice p1a10 n1a10 c1a10, .slice p2a10 n2a10 c2a10, .slice p3a10 n3a10 c3a10], .bool true]) (by simp [results, Try.results66, go_sem, *]) rfl ?_
  exact ⟨_, rfl, hH.ownT (k := 4) rfl, hH.ext⟩
end Go.Proofs.Ytpegckmagiaggaa
