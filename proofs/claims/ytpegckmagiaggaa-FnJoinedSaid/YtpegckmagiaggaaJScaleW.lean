/- ScaleNetwork of the program. -/
import Derived.Test.YtpegckmagiaggaaJCopyN
import Derived.Test.YtpegckmagiaggaaJLinW
import Derived.Test.YtpegckmagiaggaaJNetVX
set_option linter.unusedSimpArgs false
set_option linter.unusedVariables false
namespace Go.Proofs.Ytpegckmagiaggaa
open Go.RowKit
theorem scale_isN {k p n : Int} {dm : Int → Int} {U : List Int} {ts : List (NT k p n)} {op : List Int} (h : IsN k p n dm U ts op) (x : El k p n) (hl : ts.length < 12) : IsN k p n dm U (ts ++ [([], [x])]) op :=
  ⟨h.uni, fun t ht => by
    rcases List.mem_append.1 ht with ht | ht
    · exact h.ten t ht
    · simp at ht; subst ht; exact ⟨h.uni, Sub.nil U, rfl⟩, h.sub, fun y hy => by rw [occ_scale]; exact h.occ y hy, by rw [List.length_append, List.length_singleton]; omega⟩
set_option maxRecDepth 100000 in
set_option maxHeartbeats 8000000 in
theorem scaleNetwork_any {k p n : Int} (hr : ringOk k p n = true) {dm : Int → Int} {U : List Int} {ts : List (NT k p n)} {op : List Int} (hN : IsN k p n dm U ts op) (tv ov : Value) (w : World) (hT : TensS w tv (ts.map (tenOf dm))) (hO : IntS w ov op) (x : El k p n) (hlt12 : ts.length < 12) (vx : Value) (hX : IntS w vx x.1) :
 Calls Try.prog 46 #[.agg #[.int .i64 k, .int .i64 p, .int .i64 n, tv, ov], vx] w fun e w' => ∃ tv' ov' cs, e = .returned (.tuple #[.agg #[.int .i64 k, .int .i64 p, .int .i64 n, tv', ov'], .bool true]) ∧
  Held w w' [aTs tv' cs ((ts ++ [([], [x])]).map (tenOf dm)), aI ov' op] := by
 have hT0 := hT
 have hO0 := hO
 obtain ⟨m, hm⟩ : ∃ m, ts.length = m := ⟨_, rfl⟩
 obtain ⟨aV, cV, rfl, hcT1, hcT2⟩ := hT.val
 obtain ⟨aO, cO, rfl, hcO1, hcO2⟩ := hO.val
 rw [List.length_map, hm] at hT hT0 hcT1
 rw [List.length_map, hm]
 have hm12 : m ≤ 12 := by rw [← hm]; exact hN.len
 have hop12 : op.length ≤ 12 := hN.rank
 have HM := Lib.hid hm; have HR := Lib.hid hr; have HN := Lib.hid hN; have HD3 := Lib.hid hN.dims3; clear hm  hN
 have hTl : Hid ((ts.map (tenOf dm)).length = m) := Lib.hid (by rw [List.length_map]; exact HM.out)
 obtain ⟨aX, cX, rfl, _, _⟩ := hX.val
 have HEK : Hid (elemOk k p n x.1 = true) := Lib.hid (elemOk_of HR.out x.2)
 have HSX : Hid (scalX k p n x.1 = flat [x]) := Lib.hid (by rw [scalX_yes HEK.out]; exact (List.append_nil x.1).symm)
 have HNS := Lib.hid (scale_isN HN.out x hlt12)
 obtain ⟨NX, hNX⟩ : ∃ q, x.1.length = q := ⟨_, rfl⟩
 rw [hNX] at hX ⊢
 clear hNX hlt12
 obtain ⟨T1, hT1⟩ : ∃ q, ts.map (tenOf dm) = q := ⟨_, rfl⟩
 have HQL : Hid (T1.length = m) := Lib.hid (by rw [← hT1]; exact hTl.out)
 have HT12 : Hid ((ts ++ [([], [x])]).map (tenOf dm) = T1 ++ [([], [], flat [x])]) := Lib.hid (by rw [List.map_append, hT1]; rfl)
 have HT1 := Lib.hid hT1
 clear hT1
 go_enter Try.func46, Try.ntmps46
 go_upto_region 1 with fail
 have hH : Held w w [] := Held.new (Ext.refl w) 0
 have hB : Held w (w.alloc (.cells #[.int .i64 k, .int .i64 p, .int .i64 n, .slice aV m cV, .slice aO op.length cO] 29)) [aB (w.heap.size) 29 [.int .i64 k, .int .i64 p, .int .i64 n, .slice aV m cV, .slice aO op.length cO]] := by
  have h := (hH.mores 1).addB 0 #[.int .i64 k, .int .i64 p, .int .i64 n, .slice aV m cV, .slice aO op.length cO] 29
  exact h
 have hsz : (w.alloc (.cells #[.int .i64 k, .int .i64 p, .int .i64 n, .slice aV m cV, .slice aO op.length cO] 29)).heap.size = w.heap.size + 1 := by simp
 generalize w.alloc (.cells #[.int .i64 k, .int .i64 p, .int .i64 n, .slice aV m cV, .slice aO op.length cO] 29) = wn1 at hB hsz ⊢
 replace hH := hB; have HSZwn1 := Lib.hid hsz; clear hB hsz
 have hB : Held w (wn1.alloc (.cells #[.int .i64 0, .int .i64 0, .int .i64 0, .slice none 0 0, .slice none 0 0] 29)) [aB (w.heap.size) 29 [.int .i64 k, .int .i64 p, .int .i64 n, .slice aV m cV, .slice aO op.length cO], aB (w.heap.size + 1) 29 [.int .i64 0, .int .i64 0, .int .i64 0, .slice none 0 0, .slice none 0 0]] := by
  have h := (hH.mores 1).addB 1 #[.int .i64 0, .int .i64 0, .int .i64 0, .slice none 0 0, .slice none 0 0] 29
  rw [HSZwn1.out] at h
  exact h
 have hsz : (wn1.alloc (.cells #[.int .i64 0, .int .i64 0, .int .i64 0, .slice none 0 0, .slice none 0 0] 29)).heap.size = w.heap.size + 1 + 1 := by rw [← HSZwn1.out]; simp
 generalize wn1.alloc (.cells #[.int .i64 0, .int .i64 0, .int .i64 0, .slice none 0 0, .slice none 0 0] 29) = wn2 at hB hsz ⊢
 replace hH := hB; have HSZwn2 := Lib.hid hsz; clear hB hsz
 have q0_0 := hH.cl 0 0 rfl rfl; have q0_1 := hH.cl 0 1 rfl rfl; have q0_2 := hH.cl 0 2 rfl rfl; have q0_3 := hH.cl 0 3 rfl rfl; have q0_4 := hH.cl 0 4 rfl rfl; have l0_ := hH.bl 0 rfl; have q1_0 := hH.cl 1 0 rfl rfl; have q1_1 := hH.cl 1 1 rfl rfl; have q1_2 := hH.cl 1 2 rfl rfl; have q1_3 := hH.cl 1 3 rfl rfl; have q1_4 := hH.cl 1 4 rfl rfl; have l1_ := hH.bl 1 rfl
 go_wp2_with fail
 clear q0_0 q0_1 q0_2 q0_3 q0_4 l0_ q1_0 q1_1 q1_2 q1_3 q1_4 l1_
 refine (networkOk_any HR.out HN.out _ _ _ (hT0.ext hH.ext) (hO0.ext hH.ext)).mono ?_; rintro ewn3 wn3 ⟨rfl, hwn3⟩
 replace hH : Held w wn3 [aB (w.heap.size) 29 [.int .i64 k, .int .i64 p, .int .i64 n, .slice aV m cV, .slice aO op.length cO], aB (w.heap.size + 1) 29 [.int .i64 0, .int .i64 0, .int .i64 0, .slice none 0 0, .slice none 0 0]] := hH.grow hwn3
 clear hwn3
 have q0_0 := hH.cl 0 0 rfl rfl; have q0_1 := hH.cl 0 1 rfl rfl; have q0_2 := hH.cl 0 2 rfl rfl; have q0_3 := hH.cl 0 3 rfl rfl; have q0_4 := hH.cl 0 4 rfl rfl; have l0_ := hH.bl 0 rfl; have q1_0 := hH.cl 1 0 rfl rfl; have q1_1 := hH.cl 1 1 rfl rfl; have q1_2 := hH.cl 1 2 rfl rfl; have q1_3 := hH.cl 1 3 rfl rfl; have q1_4 := hH.cl 1 4 rfl rfl; have l1_ := hH.bl 1 rfl
 go_wp2_with fail
 clear q0_0 q0_1 q0_2 q0_3 q0_4 l0_ q1_0 q1_1 q1_2 q1_3 q1_4 l1_
 refine (elemOk_impl k p n _ x.1 _ (hX.ext hH.ext)).mono ?_; rintro ewn4 wn4 ⟨rfl, hwn4⟩
 rw [HEK.out]
 replace hH : Held w wn4 [aB (w.heap.size) 29 [.int .i64 k, .int .i64 p, .int .i64 n, .slice aV m cV, .slice aO op.length cO], aB (w.heap.size + 1) 29 [.int .i64 0, .int .i64 0, .int .i64 0, .slice none 0 0, .slice none 0 0]] := hH.grow hwn4
 clear hwn4
 have q0_0 := hH.cl 0 0 rfl rfl; have q0_1 := hH.cl 0 1 rfl rfl; have q0_2 := hH.cl 0 2 rfl rfl; have q0_3 := hH.cl 0 3 rfl rfl; have q0_4 := hH.cl 0 4 rfl rfl; have l0_ := hH.bl 0 rfl; have q1_0 := hH.cl 1 0 rfl rfl; have q1_1 := hH.cl 1 1 rfl rfl; have q1_2 := hH.cl 1 2 rfl rfl; have q1_3 := hH.cl 1 3 rfl rfl; have q1_4 := hH.cl 1 4 rfl rfl; have l1_ := hH.bl 1 rfl
 go_wp2_with fail
 clear q0_0 q0_1 q0_2 q0_3 q0_4 l0_ q1_0 q1_1 q1_2 q1_3 q1_4 l1_
 refine (copyNetwork_any HR.out HN.out _ _ _ (hT0.ext hH.ext) (hO0.ext hH.ext)).mono ?_; rintro ewn5 wn5 ⟨tv9, ov9, cs, rfl, hJ⟩
 rw [HT1.out] at hJ
 obtain ⟨aP, cP, rfl⟩ := (hJ.own (k := 1) rfl).shape1 op.length rfl
 obtain ⟨aK, cK, rfl, _, _⟩ := (hJ.tensS (k := 0) rfl).val
 rw [HQL.out] at hJ ⊢
 replace hH : Held w wn5 [aB (w.heap.size) 29 [.int .i64 k, .int .i64 p, .int .i64 n, .slice aV m cV, .slice aO op.length cO], aB (w.heap.size + 1) 29 [.int .i64 0, .int .i64 0, .int .i64 0, .slice none 0 0, .slice none 0 0], aTs (.slice aK m cK) cs T1, aI (.slice aP op.length cP) op] := hH.join hJ (fun q hq => by cases hq)
 clear hJ
 have q0_0 := hH.cl 0 0 rfl rfl; have q0_1 := hH.cl 0 1 rfl rfl; have q0_2 := hH.cl 0 2 rfl rfl; have q0_3 := hH.cl 0 3 rfl rfl; have q0_4 := hH.cl 0 4 rfl rfl; have l0_ := hH.bl 0 rfl; have q1_0 := hH.cl 1 0 rfl rfl; have q1_1 := hH.cl 1 1 rfl rfl; have q1_2 := hH.cl 1 2 rfl rfl; have q1_3 := hH.cl 1 3 rfl rfl; have q1_4 := hH.cl 1 4 rfl rfl; have l1_ := hH.bl 1 rfl
 go_upto_region 4 with fail
 clear q0_0 q0_1 q0_2 q0_3 q0_4 l0_ q1_0 q1_1 q1_2 q1_3 q1_4 l1_
 have hB : Held w (wn5.alloc (.cells #[.int .i64 k, .int .i64 p, .int .i64 n, .slice aK m cK, .slice aP op.length cP] 29)) [aB (w.heap.size) 29 [.int .i64 k, .int .i64 p, .int .i64 n, .slice aV m cV, .slice aO op.length cO], aB (w.heap.size + 1) 29 [.int .i64 0, .int .i64 0, .int .i64 0, .slice none 0 0, .slice none 0 0], aTs (.slice aK m cK) cs T1, aI (.slice aP op.length cP) op, aB (wn5.heap.size) 29 [.int .i64 k, .int .i64 p, .int .i64 n, .slice aK m cK, .slice aP op.length cP]] := by
  have h := (hH.mores 1).addB 4 #[.int .i64 k, .int .i64 p, .int .i64 n, .slice aK m cK, .slice aP op.length cP] 29
  exact h
 have hsz : (wn5.alloc (.cells #[.int .i64 k, .int .i64 p, .int .i64 n, .slice aK m cK, .slice aP op.length cP] 29)).heap.size = wn5.heap.size + 1 := by simp
 generalize wn5.alloc (.cells #[.int .i64 k, .int .i64 p, .int .i64 n, .slice aK m cK, .slice aP op.length cP] 29) = wn6 at hB hsz ⊢
 replace hH := hB; have HSZwn6 := Lib.hid hsz; clear hB hsz
 obtain ⟨wq, rfl⟩ : ∃ q, q = wn6 := ⟨wn6, rfl⟩
 replace hH := hH.mores 2
 replace hH : Held w wq [aB (w.heap.size) 29 [.int .i64 k, .int .i64 p, .int .i64 n, .slice aV m cV, .slice aO op.length cO], aB (w.heap.size + 1) 29 [.int .i64 0, .int .i64 0, .int .i64 0, .slice none 0 0, .slice none 0 0], aTs (.slice aK m cK) cs T1, aI (.slice aP op.length cP) op, aB (wn5.heap.size) 29 [.int .i64 k, .int .i64 p, .int .i64 n, .slice aK m cK, .slice aP op.length cP], emp, emp] := hH
 refine wp_region_steps ?Fa (fun b t wx => Held w wx [aB (w.heap.size) 29 [.int .i64 k, .int .i64 p, .int .i64 n, .slice aV m cV, .slice aO op.length cO], aB (w.heap.size + 1) 29 [.int .i64 0, .int .i64 0, .int .i64 0, .slice none 0 0, .slice none 0 0], (bif b 7 then aTs (t 7) (cs ++ [cel3 (t 5)]) (T1 ++ [([], [], (flat [x]))]) else aTs (.slice aK m cK) cs T1), aI (.slice aP op.length cP) op, (bif b 9 then aB wn5.heap.size 29 [.int .i64 k, .int .i64 p, .int .i64 n, t 7, .slice aP op.length cP] else aB (wn5.heap.size) 29 [.int .i64 k, .int .i64 p, .int .i64 n, .slice aK m cK, .slice aP op.length cP]), (bif b 7 then emp else (bif b 5 then aT (t 5) [] [] (flat [x]) else emp)), (bif b 6 then aB (blkS (t 6)) 32 (partsOf (t 5)) else emp)] ∧ (b 0 = true → t 0 = .pointer (some ⟨wn5.heap.size, 3, none⟩)) ∧ (b 1 = true → t 1 = .slice aK m cK) ∧ (b 2 = true → t 2 = .pointer (some ⟨w.heap.size, 0, none⟩)) ∧ (b 3 = true → t 3 = .agg #[.int .i64 k, .int .i64 p, .int .i64 n]) ∧ (b 4 = true → t 4 = .slice aX NX cX) ∧ (b 5 = true → ∃ p1 n1 c1 p2 n2 c2 p3 n3 c3, t 5 = .agg #[.slice p1 n1 c1, .slice p2 n2 c2, .slice p3 n3 c3]) ∧ (b 6 = true → ∃ z, t 6 = .slice (some ⟨z, 0, none⟩) 1 1) ∧ (b 7 = true → ∃ a c, t 7 = .slice a (m + 1) c) ∧ (b 8 = true → t 8 = .pointer (some ⟨wn5.heap.size, 3, none⟩))) ?hFa (by kernel_rfl) (by kernel_rfl) ?hJa ?hSa ?hEa
 (case hFa => intro t; simp only [putAll, Act.put, List.setIfInBounds_toArray, List.set_cons_zero, List.set_cons_succ, Nat.reduceAdd, Nat.zero_add]; exact rfl)
 case hJa => exact ⟨hH.grow ((Ext.refl _).drew), fun h => absurd h Bool.false_ne_true, fun h => absurd h Bool.false_ne_true, fun h => absurd h Bool.false_ne_true, fun h => absurd h Bool.false_ne_true, fun h => absurd h Bool.false_ne_true, fun h => absurd h Bool.false_ne_true, fun h => absurd h Bool.false_ne_true, fun h => absurd h Bool.false_ne_true, fun h => absurd h Bool.false_ne_true⟩
 case hSa => as_aux_lemma =>
   refine AllSteps.cons (j := 1) rfl (fun b t wx hJ hb hd hcl Kc hK => ?_) ?_
   · obtain ⟨hH, v0, v1, v2, v3, v4, v5, v6, v7, v8⟩ := hJ
     go_simp
     refine hK.out _ ?_ _ ?_ ?_; rotate_left 2
     · rfl
     exact ⟨hH, fun _ => rfl, v1, v2, v3, v4, v5, v6, v7, v8⟩
   refine AllSteps.cons (j := 2) rfl (fun b t wx hJ hb hd hcl Kc hK => ?_) ?_
   · obtain ⟨hH, v0, v1, v2, v3, v4, v5, v6, v7, v8⟩ := hJ
     have d0 := hd.out 0 (by kernel_rfl)
     have n9 : b 9 = false := Bool.eq_false_iff.2 fun h => absurd (hcl.out 9 1 (by kernel_rfl) (h)) (by rw [hb]; exact Bool.false_ne_true)
     have r0 := v0 d0
     have hN := hH; (try simp only [hb, d0, n9, cond_true, cond_false] at hN)
     have q4_3 := hN.cl 4 3 rfl rfl
     go_simp
     refine hK.out _ ?_ _ ?_ ?_; rotate_left 2
     · (try simp only [r0]); rfl
     exact ⟨hH, v0, fun _ => rfl, v2, v3, v4, v5, v6, v7, v8⟩
   refine AllSteps.cons (j := 3) rfl (fun b t wx hJ hb hd hcl Kc hK => ?_) ?_
   · obtain ⟨hH, v0, v1, v2, v3, v4, v5, v6, v7, v8⟩ := hJ
     go_simp
     refine hK.out _ ?_ _ ?_ ?_; rotate_left 2
     · rfl
     exact ⟨hH, v0, v1, fun _ => rfl, v3, v4, v5, v6, v7, v8⟩
   refine AllSteps.cons (j := 4) rfl (fun b t wx hJ hb hd hcl Kc hK => ?_) ?_
   · obtain ⟨hH, v0, v1, v2, v3, v4, v5, v6, v7, v8⟩ := hJ
     have d2 := hd.out 2 (by kernel_rfl); have r2 := v2 d2; have q0_0 := hH.cl 0 0 rfl rfl; have q0_1 := hH.cl 0 1 rfl rfl; have q0_2 := hH.cl 0 2 rfl rfl
     go_simp
     refine hK.out _ ?_ _ ?_ ?_; rotate_left 2
     · (try simp only [r2]); rfl
     exact ⟨hH, v0, v1, v2, fun _ => rfl, v4, v5, v6, v7, v8⟩
   refine AllSteps.cons (j := 5) rfl (fun b t wx hJ hb hd hcl Kc hK => ?_) ?_
   · obtain ⟨hH, v0, v1, v2, v3, v4, v5, v6, v7, v8⟩ := hJ
     go_simp
     refine hK.out _ ?_ _ ?_ ?_; rotate_left 2
     · rfl
     exact ⟨hH, v0, v1, v2, v3, fun _ => rfl, v5, v6, v7, v8⟩
   refine AllSteps.cons (j := 6) rfl (fun b t wx hJ hb hd hcl Kc hK => ?_) ?_
   · obtain ⟨hH, v0, v1, v2, v3, v4, v5, v6, v7, v8⟩ := hJ
     have d3 := hd.out 3 (by kernel_rfl); have d4 := hd.out 4 (by kernel_rfl)
     have n6 : b 6 = false := Bool.eq_false_iff.2 fun h => absurd (hcl.out 6 5 (by kernel_rfl) (h)) (by rw [hb]; exact Bool.false_ne_true)
     have n7 : b 7 = false := Bool.eq_false_iff.2 fun h => absurd (hcl.out 7 5 (by kernel_rfl) (h)) (by rw [hb]; exact Bool.false_ne_true)
     have r3 := v3 d3; have r4 := v4 d4
     have hN := hH; (try simp only [hb, d3, d4, n6, n7, cond_true, cond_false] at hN)
     go_simp
     go_at_call 127
     refine (scalarTensor_impl k p n _ x.1 _ (hX.ext hH.ext)).mono ?_; rintro e5 w5 ⟨vd, rfl, od, h7⟩
     rw [HSX.out] at od
     obtain ⟨pa1, na1, ca1, pa2, na2, ca2, pa3, na3, ca3, rfl⟩ := od.shape
     (try go_simp)
     refine hK.out _ ?_ _ ?_ ?_; rotate_left 2
     · (try simp only [r3, r4]); rfl
     exact ⟨by have hX := hN.addT 5 h7 od (Nat.le_refl _); simpa only [List.set_cons_zero, List.set_cons_succ, updB, updV, blkOf_mk, tup0_mk, partsOf3, blkS_mk, cel3_mk, Nat.reduceBEq, cond_true, cond_false, hb, d3, d4, n6, n7, r3, r4] using hX, v0, v1, v2, v3, v4, fun _ => ⟨_, _, _, _, _, _, _, _, _, rfl⟩, v6, v7, v8⟩
   refine AllSteps.cons (j := 7) rfl (fun b t wx hJ hb hd hcl Kc hK => ?_) ?_
   · obtain ⟨hH, v0, v1, v2, v3, v4, v5, v6, v7, v8⟩ := hJ
     have d5 := hd.out 5 (by kernel_rfl); have r5 := v5 d5
     obtain ⟨p1_5, n1_5, c1_5, p2_5, n2_5, c2_5, p3_5, n3_5, c3_5, r5⟩ := r5
     have hN := hH; (try simp only [hb, d5, cond_true, cond_false] at hN)
     have e5 := r5 -- d5
     go_simp
     refine hK.out _ ?_ _ ?_ ?_; rotate_left 2
     · (try simp only [r5]); rfl
     exact ⟨by have hX := hN.addB 6 #[.slice p1_5 n1_5 c1_5, .slice p2_5 n2_5 c2_5, .slice p3_5 n3_5 c3_5] 32; simpa only [List.set_cons_zero, List.set_cons_succ, updB, updV, blkOf_mk, tup0_mk, partsOf3, blkS_mk, cel3_mk, Nat.reduceBEq, cond_true, cond_false, hb, d5, r5] using hX, v0, v1, v2, v3, v4, v5, fun _ => ⟨_, rfl⟩, v7, v8⟩
   refine AllSteps.cons (j := 8) rfl (fun b t wx hJ hb hd hcl Kc hK => ?_) ?_
   · obtain ⟨hH, v0, v1, v2, v3, v4, v5, v6, v7, v8⟩ := hJ
     have d1 := hd.out 1 (by kernel_rfl); have d5 := hd.out 5 (by kernel_rfl); have d6 := hd.out 6 (by kernel_rfl)
     have n9 : b 9 = false := Bool.eq_false_iff.2 fun h => absurd (hcl.out 9 7 (by kernel_rfl) (h)) (by rw [hb]; exact Bool.false_ne_true)
     have r1 := v1 d1; have r5 := v5 d5; have r6 := v6 d6
     obtain ⟨p1_5, n1_5, c1_5, p2_5, n2_5, c2_5, p3_5, n3_5, c3_5, r5⟩ := r5
     obtain ⟨z_6, r6⟩ := r6
     have hN := hH; (try simp only [hb, d1, d5, d6, n9, cond_true, cond_false] at hN)
     rw [r5] at hN -- d5 d6
     refine step_app wx rfl _ _ 26 rfl (.slice aK m cK) (t 6) (by first | rfl | (go_simp; done)) (by first | rfl | (go_simp; done)) _ (run_pushT2 _ hN (k1 := 2) (k2 := 5) rfl rfl (by decide) (by rw [r6]; have h := hN.blk (k := 6) rfl; rw [r6] at h; exact row_blk3 h) ((by rw [HQL.out]; omega))) ?_; rintro va wa ⟨hHa, ga⟩
     obtain ⟨aa, ca, hva, _, _⟩ := (hHa.tensS (k := 2) rfl).val; subst hva
     refine hK.out _ ?_ _ ?_ ?_; rotate_left 2
     · (try simp only [r1, r5, r6]); rfl
     exact ⟨by have hX := hHa; simpa only [List.set_cons_zero, List.set_cons_succ, updB, updV, blkOf_mk, tup0_mk, partsOf3, blkS_mk, cel3_mk, Nat.reduceBEq, cond_true, cond_false, hb, d1, d5, d6, n9, r1, r5, r6] using hX, v0, v1, v2, v3, v4, v5, v6, fun _ => ⟨_, _, by rw [List.length_append, HQL.out]; rfl⟩, v8⟩
   refine AllSteps.cons (j := 9) rfl (fun b t wx hJ hb hd hcl Kc hK => ?_) ?_
   · obtain ⟨hH, v0, v1, v2, v3, v4, v5, v6, v7, v8⟩ := hJ
     have d0 := hd.out 0 (by kernel_rfl); have d1 := hd.out 1 (by kernel_rfl); have d2 := hd.out 2 (by kernel_rfl); have d3 := hd.out 3 (by kernel_rfl); have d4 := hd.out 4 (by kernel_rfl); have d5 := hd.out 5 (by kernel_rfl); have d6 := hd.out 6 (by kernel_rfl); have d7 := hd.out 7 (by kernel_rfl); have r0 := v0 d0; have r1 := v1 d1; have r2 := v2 d2; have r3 := v3 d3; have r4 := v4 d4; have r5 := v5 d5; have r6 := v6 d6; have r7 := v7 d7
     obtain ⟨p1_5, n1_5, c1_5, p2_5, n2_5, c2_5, p3_5, n3_5, c3_5, r5⟩ := r5
     obtain ⟨z_6, r6⟩ := r6
     obtain ⟨a_7, c_7, r7⟩ := r7
     go_simp
     refine hK.out _ ?_ _ ?_ ?_; rotate_left 2
     · (try simp only [r0, r1, r2, r3, r4, r5, r6, r7]); rfl
     exact ⟨hH, v0, v1, v2, v3, v4, v5, v6, v7, fun _ => rfl⟩
   refine AllSteps.cons (j := 10) rfl (fun b t wx hJ hb hd hcl Kc hK => ?_) ?_
   · obtain ⟨hH, v0, v1, v2, v3, v4, v5, v6, v7, v8⟩ := hJ
     have d0 := hd.out 0 (by kernel_rfl); have d1 := hd.out 1 (by kernel_rfl); have d2 := hd.out 2 (by kernel_rfl); have d3 := hd.out 3 (by kernel_rfl); have d4 := hd.out 4 (by kernel_rfl); have d5 := hd.out 5 (by kernel_rfl); have d6 := hd.out 6 (by kernel_rfl); have d7 := hd.out 7 (by kernel_rfl); have d8 := hd.out 8 (by kernel_rfl); have r0 := v0 d0; have r1 := v1 d1; have r2 := v2 d2; have r3 := v3 d3; have r4 := v4 d4; have r5 := v5 d5; have r6 := v6 d6; have r7 := v7 d7; have r8 := v8 d8
     obtain ⟨p1_5, n1_5, c1_5, p2_5, n2_5, c2_5, p3_5, n3_5, c3_5, r5⟩ := r5
     obtain ⟨z_6, r6⟩ := r6
     obtain ⟨a_7, c_7, r7⟩ := r7
     have hN := hH; (try simp only [hb, d0, d1, d2, d3, d4, d5, d6, d7, d8, cond_true, cond_false] at hN)
     have B := hN.blk (k := 4) rfl; have fB := B.free 3; have zB := B.cell (j := 3) rfl; have lB := B.lt
     go_simp
     refine hK.out _ undef _ ?_ ?_; rotate_left 1
     · (try simp only [r0, r1, r2, r3, r4, r5, r6, r7, r8]); rfl
     exact ⟨by have hX := hN.setB (k := 4) rfl 3 (t 7); simpa only [List.set_cons_zero, List.set_cons_succ, updB, updV, blkOf_mk, tup0_mk, partsOf3, blkS_mk, cel3_mk, Nat.reduceBEq, cond_true, cond_false, hb, d0, d1, d2, d3, d4, d5, d6, d7, d8, r0, r1, r2, r3, r4, r5, r6, r7, r8] using hX, v0, v1, v2, v3, v4, v5, v6, v7, v8⟩
   exact AllSteps.nil
 case hEa =>
  intro b t wa hJ hall
  obtain ⟨hHa, v0, v1, v2, v3, v4, v5, v6, v7, v8⟩ := hJ
  have a0 := hall 0 (by decide); have a1 := hall 1 (by decide); have a2 := hall 2 (by decide); have a3 := hall 3 (by decide); have a4 := hall 4 (by decide); have a5 := hall 5 (by decide); have a6 := hall 6 (by decide); have a7 := hall 7 (by decide); have a8 := hall 8 (by decide); have a9 := hall 9 (by decide)
  (try simp only [a0, a1, a2, a3, a4, a5, a6, a7, a8, a9, cond_true] at hHa)
  replace v0 := v0 a0; replace v1 := v1 a1; replace v2 := v2 a2; replace v3 := v3 a3; replace v4 := v4 a4; replace v5 := v5 a5; replace v6 := v6 a6; replace v7 := v7 a7; replace v8 := v8 a8
  clear hall a0 a1 a2 a3 a4 a5 a6 a7 a8 a9
  generalize t 8 = x8 at hHa v8 ⊢; generalize t 7 = x7 at hHa v7 ⊢; generalize t 6 = x6 at hHa v6 ⊢; generalize t 5 = x5 at hHa v5 ⊢; generalize t 4 = x4 at hHa v4 ⊢; generalize t 3 = x3 at hHa v3 ⊢; generalize t 2 = x2 at hHa v2 ⊢; generalize t 1 = x1 at hHa v1 ⊢; generalize t 0 = x0 at hHa v0 ⊢; subst v0; subst v1; subst v2; subst v3; subst v4
  obtain ⟨p1a5, n1a5, c1a5, p2a5, n2a5, c2a5, p3a5, n3a5, c3a5, rfl⟩ := v5
  obtain ⟨za6, rfl⟩ := v6
  obtain ⟨aa7, ca7, rfl⟩ := v7
  subst v8
  simp only [blkOf_mk, tup0_mk, partsOf3, blkS_mk, cel3_mk] at hHa
  clear b
  replace hH := hHa; clear hHa
  replace hH : Held w wa [aB (w.heap.size) 29 [.int .i64 k, .int .i64 p, .int .i64 n, .slice aV m cV, .slice aO op.length cO], aB (w.heap.size + 1) 29 [.int .i64 0, .int .i64 0, .int .i64 0, .slice none 0 0, .slice none 0 0], aTs (.slice aa7 (m + 1) ca7) (cs ++ [(.slice p1a5 n1a5 c1a5, .slice p2a5 n2a5 c2a5, .slice p3a5 n3a5 c3a5)]) (T1 ++ [([], [], (flat [x]))]), aI (.slice aP op.length cP) op, aB wn5.heap.size 29 [.int .i64 k, .int .i64 p, .int .i64 n, .slice aa7 (m + 1) ca7, .slice aP op.length cP], emp, aB za6 32 [.slice p1a5 n1a5 c1a5, .slice p2a5 n2a5 c2a5, .slice p3a5 n3a5 c3a5]] := hH
  obtain ⟨mm, hmm⟩ : ∃ q, m + 1 = q := ⟨_, rfl⟩
  rw [hmm] at hH ⊢
  have HMM := Lib.hid hmm; clear hmm
  have q0_0 := hH.cl 0 0 rfl rfl; have q0_1 := hH.cl 0 1 rfl rfl; have q0_2 := hH.cl 0 2 rfl rfl; have q0_3 := hH.cl 0 3 rfl rfl; have q0_4 := hH.cl 0 4 rfl rfl; have l0_ := hH.bl 0 rfl; have q1_0 := hH.cl 1 0 rfl rfl; have q1_1 := hH.cl 1 1 rfl rfl; have q1_2 := hH.cl 1 2 rfl rfl; have q1_3 := hH.cl 1 3 rfl rfl; have q1_4 := hH.cl 1 4 rfl rfl; have l1_ := hH.bl 1 rfl; have q4_0 := hH.cl 4 0 rfl rfl; have q4_1 := hH.cl 4 1 rfl rfl; have q4_2 := hH.cl 4 2 rfl rfl; have q4_3 := hH.cl 4 3 rfl rfl; have q4_4 := hH.cl 4 4 rfl rfl; have l4_ := hH.bl 4 rfl
  go_wp2_with fail
  clear q0_0 q0_1 q0_2 q0_3 q0_4 l0_ q1_0 q1_1 q1_2 q1_3 q1_4 l1_ q4_0 q4_1 q4_2 q4_3 q4_4 l4_
  have hTJ : TensS wa (.slice aa7 mm ca7) ((ts ++ [([], [x])]).map (tenOf dm)) := by rw [HT12.out]; exact hH.tensS (k := 2) rfl
  refine (networkOk_any HR.out HNS.out _ _ _ hTJ (hH.ints (k := 3) rfl)).mono ?_; rintro ewn7 wn7 ⟨rfl, hwn7⟩
  replace hH : Held w wn7 [aB (w.heap.size) 29 [.int .i64 k, .int .i64 p, .int .i64 n, .slice aV m cV, .slice aO op.length cO], aB (w.heap.size + 1) 29 [.int .i64 0, .int .i64 0, .int .i64 0, .slice none 0 0, .slice none 0 0], aTs (.slice aa7 mm ca7) (cs ++ [(.slice p1a5 n1a5 c1a5, .slice p2a5 n2a5 c2a5, .slice p3a5 n3a5 c3a5)]) (T1 ++ [([], [], (flat [x]))]), aI (.slice aP op.length cP) op, aB wn5.heap.size 29 [.int .i64 k, .int .i64 p, .int .i64 n, .slice aa7 mm ca7, .slice aP op.length cP], emp, aB za6 32 [.slice p1a5 n1a5 c1a5, .slice p2a5 n2a5 c2a5, .slice p3a5 n3a5 c3a5]] := hH.grow hwn7
  clear hwn7
  clear hTJ
  have q0_0 := hH.cl 0 0 rfl rfl; have q0_1 := hH.cl 0 1 rfl rfl; have q0_2 := hH.cl 0 2 rfl rfl; have q0_3 := hH.cl 0 3 rfl rfl; have q0_4 := hH.cl 0 4 rfl rfl; have l0_ := hH.bl 0 rfl; have q1_0 := hH.cl 1 0 rfl rfl; have f1_0 := hH.fr 1 0 rfl; have q1_1 := hH.cl 1 1 rfl rfl; have f1_1 := hH.fr 1 1 rfl; have q1_2 := hH.cl 1 2 rfl rfl; have f1_2 := hH.fr 1 2 rfl; have q1_3 := hH.cl 1 3 rfl rfl; have f1_3 := hH.fr 1 3 rfl; have q1_4 := hH.cl 1 4 rfl rfl; have f1_4 := hH.fr 1 4 rfl; have l1_ := hH.bl 1 rfl; have q4_0 := hH.cl 4 0 rfl rfl; have q4_1 := hH.cl 4 1 rfl rfl; have q4_2 := hH.cl 4 2 rfl rfl; have q4_3 := hH.cl 4 3 rfl rfl; have q4_4 := hH.cl 4 4 rfl rfl; have l4_ := hH.bl 4 rfl
  go_upto_region 7 with fail
  repeat go_step
  refine bodyPost_ret (v := .tuple #[.agg #[.int .i64 k, .int .i64 p, .int .i64 n, .slice aa7 mm ca7, .slice aP op.length cP], .bool true]) (by simp [results, Try.results46, go_sem, *]) rfl ?_
  rw [HT12.out]
  exact ⟨_, _, _, rfl, (hH.setB5 (k := 1) rfl (.int .i64 k) (.int .i64 p) (.int .i64 n) (.slice aa7 mm ca7) (.slice aP op.length cP)).sub (.cons _ (.cons _ (.cons_cons _ (.cons_cons _ (.cons _ (.cons _ (.cons _ .slnil)))))))⟩
end Go.Proofs.Ytpegckmagiaggaa
