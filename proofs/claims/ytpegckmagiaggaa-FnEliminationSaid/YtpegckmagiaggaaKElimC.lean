/- l21Closed, MakeClosed of the reference. -/
import Derived.Test.YtpegckmagiaggaaKElimM
set_option linter.unusedSimpArgs false
set_option linter.unusedVariables false
namespace Go.Proofs.Ytpegckmagiaggaa
open Go.RowKit
theorem HeldX.oneX {ex : Option Nat} {a w : World} {v : Value} {l : List Int} (g : a.grownBy w ex) (o : OwnI w a.heap.size v l) : HeldX ex a w [aI v l] :=
  ⟨g, fun A hA => by
    simp at hA; subst hA
    exact ⟨o.zero, fun b hb => (o.block_lt (by simpa [aI] using hb)).1⟩, by simp⟩
set_option maxRecDepth 100000 in
set_option maxHeartbeats 4000000 in
theorem l21Closed_any {k p n : Int} (hr : ringOk k p n = true) {dm : Int → Int} {U : List Int} {ts : List (NT k p n)} {op : List Int} (hN : IsN k p n dm U ts op) (tv ov : Value) (w : World) (hT : TensS w tv (ts.map (tenOf dm))) (hO : IntS w ov op) :
 Calls Try.prog 152 #[.agg #[.int .i64 k, .int .i64 p, .int .i64 n, tv, ov]] w fun e w' => ∃ u, e = .returned u ∧ OwnI w' w.heap.size u (closedL ts op) ∧ Ext w w' := by
 have hT0 := hT
 have hO0 := hO
 obtain ⟨m, hm⟩ : ∃ m, ts.length = m := ⟨_, rfl⟩
 obtain ⟨aV, cV, rfl, hcT1, hcT2⟩ := hT.val
 obtain ⟨aO, cO, rfl, hcO1, hcO2⟩ := hO.val
 rw [List.length_map, hm] at hT hT0 hcT1
 rw [List.length_map, hm]
 have hm12 : m ≤ 12 := by rw [← hm]; exact hN.len
 have hop12 : op.length ≤ 12 := hN.rank
 have HM := Lib.hid hm; have HR := Lib.hid hr; have HN := Lib.hid hN; have HD3 := Lib.hid hN.dims3; clear hm  hN
 have hTl : Hid ((ts.map (tenOf dm)).length = m) := Lib.hid (by rw [List.length_map]; exact HM.out)
 obtain ⟨AL, hAL⟩ : ∃ q, ascL (occ ts) = q := ⟨_, rfl⟩
 have hal12 : AL.length ≤ 12 := by rw [← hAL]; exact (HN.out.uni.ax HN.out.ascSub).rank
 obtain ⟨CL, hCL⟩ : ∃ f : Nat → List Int, (fun j => (AL.take j).filter fun x => !hasL op x) = f := ⟨_, rfl⟩
 have HC0 : Hid (CL 0 = []) := Lib.hid (by rw [← hCL]; rfl)
 have HCY : Hid (∀ j x, AL[j]? = some x → hasL op x = false → CL (j + 1) = CL j ++ [x]) := Lib.hid fun j x h hh => by rw [← hCL]; show (AL.take (j + 1)).filter _ = _; rw [List.take_add_one, h, List.filter_append]; simp [hh]
 have HCN : Hid (∀ j x, AL[j]? = some x → hasL op x = true → CL (j + 1) = CL j) := Lib.hid fun j x h hh => by rw [← hCL]; show (AL.take (j + 1)).filter _ = _; rw [List.take_add_one, h, List.filter_append]; simp [hh]
 have HCE : Hid (closedL ts op = CL AL.length) := Lib.hid (by rw [← hCL]; show _ = (AL.take AL.length).filter _; rw [List.take_length, ← hAL]; rfl)
 have HCLN : Hid (∀ j, (CL j).length ≤ j) := Lib.hid fun j => by rw [← hCL]; exact Nat.le_trans (List.length_filter_le _ _) (by rw [List.length_take]; omega)
 have HAL := Lib.hid hAL; clear hAL hCL
 go_enter Try.func152, Try.ntmps152
 go_upto_region 1 with fail
 have hH : Held w w [] := Held.new (Ext.refl w) 0
 have hB : Held w (w.alloc (.cells #[.int .i64 k, .int .i64 p, .int .i64 n, .slice aV m cV, .slice aO op.length cO] 29)) [aB (w.heap.size) 29 [.int .i64 k, .int .i64 p, .int .i64 n, .slice aV m cV, .slice aO op.length cO]] := by
  have h := (hH.mores 1).addB 0 #[.int .i64 k, .int .i64 p, .int .i64 n, .slice aV m cV, .slice aO op.length cO] 29
  exact h
 have hsz : (w.alloc (.cells #[.int .i64 k, .int .i64 p, .int .i64 n, .slice aV m cV, .slice aO op.length cO] 29)).heap.size = w.heap.size + 1 := by simp
 generalize w.alloc (.cells #[.int .i64 k, .int .i64 p, .int .i64 n, .slice aV m cV, .slice aO op.length cO] 29) = wn1 at hB hsz ⊢
 replace hH := hB; have HSZwn1 := Lib.hid hsz; clear hB hsz
 obtain ⟨wz0, rfl⟩ : ∃ q, q = wn1 := ⟨wn1, rfl⟩
 have q0_0 := hH.cl 0 0 rfl rfl; have q0_1 := hH.cl 0 1 rfl rfl; have q0_2 := hH.cl 0 2 rfl rfl; have q0_3 := hH.cl 0 3 rfl rfl; have q0_4 := hH.cl 0 4 rfl rfl; have l0_ := hH.bl 0 rfl
 go_wp2_with fail
 clear q0_0 q0_1 q0_2 q0_3 q0_4 l0_
 have hB : Held w (wz0.alloc (.cells #[] 3)) [aB (w.heap.size) 29 [.int .i64 k, .int .i64 p, .int .i64 n, .slice aV m cV, .slice aO op.length cO], aI (.slice (some ⟨wz0.heap.size, 0, none⟩) 0 0) []] := by
  have h := (hH.mores 1).built 1 [] 0 rfl (by simp [maxLen]) #[] rfl
  exact h
 have hsz : (wz0.alloc (.cells #[] 3)).heap.size = wz0.heap.size + 1 := by simp
 generalize wz0.alloc (.cells #[] 3) = wn2 at hB hsz ⊢
 replace hH := hB; have HSZwn2 := Lib.hid hsz; clear hB hsz
 refine (l12Labels_any HD3.out (by rw [hTl.out]; omega) _ _ (hT.ext hH.ext)).mono ?_; rintro e2 w2 ⟨u, rfl, o2, h2⟩
 rw [occ3_ten, HAL.out] at o2
 obtain ⟨al, cl, rfl⟩ := o2.shape1 AL.length rfl
 replace hH := (hH.mores 1).addI 2 h2 o2 (Nat.le_refl _); clear h2 o2
 replace hH : Held w w2 [aB (w.heap.size) 29 [.int .i64 k, .int .i64 p, .int .i64 n, .slice aV m cV, .slice aO op.length cO], aI (.slice (some ⟨wz0.heap.size, 0, none⟩) 0 0) [], aI (.slice al AL.length cl) AL] := hH
 have q0_0 := hH.cl 0 0 rfl rfl; have q0_1 := hH.cl 0 1 rfl rfl; have q0_2 := hH.cl 0 2 rfl rfl; have q0_3 := hH.cl 0 3 rfl rfl; have q0_4 := hH.cl 0 4 rfl rfl; have l0_ := hH.bl 0 rfl
 go_wp2_with fail
 clear q0_0 q0_1 q0_2 q0_3 q0_4 l0_
 go_loopw [3, 11] (fun vn i wr => ∃ (j : Nat), j ≤ AL.length ∧ i = .int .i64 (j : Int) ∧ Held w wr [aB (w.heap.size) 29 [.int .i64 k, .int .i64 p, .int .i64 n, .slice aV m cV, .slice aO op.length cO], aI vn (CL j), aI (.slice al AL.length cl) AL]) (fun vn i wr => AL.length - (RowKit.intOf i).toNat)
 case atStart => exact ⟨0, Nat.zero_le _, rfl, by rw [HC0.out]; exact hH⟩
 case round =>
  clear hH
  obtain ⟨j, hj, rfl, hH⟩ := hrel
  obtain ⟨wq, rfl⟩ : ∃ q, q = wr := ⟨wr, rfl⟩
  have hcj := HCLN.out j
  obtain ⟨NJ, hNJ⟩ : ∃ q, CL j = q := ⟨_, rfl⟩
  rw [hNJ] at hH hcj
  have HNJ := Lib.hid hNJ; clear hNJ
  obtain ⟨an, cn, rfl⟩ := (hH.own (k := 1) rfl).shapeN rfl
  by_cases hlt : j < AL.length
  ·
   obtain ⟨bA, oA, x, hVa, hcx, hx, _⟩ := (hH.ints (k := 2) rfl).get (i := j) hlt
   subst hVa
   have HX := Lib.hid hx; clear hx
   have q0_0 := hH.cl 0 0 rfl rfl; have q0_1 := hH.cl 0 1 rfl rfl; have q0_2 := hH.cl 0 2 rfl rfl; have q0_3 := hH.cl 0 3 rfl rfl; have q0_4 := hH.cl 0 4 rfl rfl; have l0_ := hH.bl 0 rfl
   go_wp2_with fail
   clear q0_0 q0_1 q0_2 q0_3 q0_4 l0_
   refine (l05Find_any _ op x _ (hO.ext hH.ext)).mono ?_; rintro e4 w4 ⟨rfl, rfl⟩
   by_cases hh : hasL op x = true
   ·
    have HS := Lib.hid (HCN.out j x HX.out hh); rw [HNJ.out] at HS
    obtain ⟨z, hz⟩ : ∃ q : Nat, findL op x = (q : Int) := ⟨(findL op x).toNat, by have := (findL_pos hh).1; omega⟩
    rw [hz]; have hz0 : ¬ (z : Int) < 0 := by omega
    clear hh hz
    have q0_0 := hH.cl 0 0 rfl rfl; have q0_1 := hH.cl 0 1 rfl rfl; have q0_2 := hH.cl 0 2 rfl rfl; have q0_3 := hH.cl 0 3 rfl rfl; have q0_4 := hH.cl 0 4 rfl rfl; have l0_ := hH.bl 0 rfl
    go_wp2_with fail
    go_roundw
    case rel => exact ⟨j + 1, by omega, by go_num, by rw [HS.out]; exact hH⟩
    case measure => simp [RowKit.intOf]; omega
   ·
    have HS := Lib.hid (HCY.out j x HX.out (eq_false_of_ne_true hh)); rw [HNJ.out] at HS; rw [findL_neg (eq_false_of_ne_true hh)]; clear hh
    have q0_0 := hH.cl 0 0 rfl rfl; have q0_1 := hH.cl 0 1 rfl rfl; have q0_2 := hH.cl 0 2 rfl rfl; have q0_3 := hH.cl 0 3 rfl rfl; have q0_4 := hH.cl 0 4 rfl rfl; have l0_ := hH.bl 0 rfl
    go_wp2_with (at_builtin; refine wpList_app _ rfl _ _ 27 rfl _ _ rfl rfl _ (run_push _ _ w.heap.size _ NJ x (hH.own (k := 1) rfl) (by omega) hH.size) ?_; rintro v6 w6 ⟨o6, g6, n6⟩)
    have hX := hH.pushed (k := 1) rfl o6 g6 n6
    go_roundw
    case rel => exact ⟨j + 1, by omega, by go_num, by rw [HS.out]; exact hX⟩
    case measure => simp [RowKit.intOf]; omega
  ·
   have hje : j = AL.length := by omega
   have HO := Lib.hid (hH.own (k := 1) rfl); have HE := Lib.hid hH.ext
   have HF : Hid (closedL ts op = NJ) := Lib.hid (by rw [HCE.out, ← hje, HNJ.out])
   clear hH hje
   go_wp2
   go_ret
   exact ⟨_, rfl, by rw [HF.out]; exact HO.out, HE.out⟩
set_option maxRecDepth 100000 in
set_option maxHeartbeats 4000000 in
theorem makeClosed_any (v : Value) (l : List Int) (c : Int) {k p n : Int} (hr : ringOk k p n = true) {dm : Int → Int} {U : List Int} {ts : List (NT k p n)} {op : List Int} (hN : IsN k p n dm U ts op) (tv ov : Value) (w : World) (hT : TensS w tv (ts.map (tenOf dm))) (hO : IntS w ov op) (hl : Code w v l) (hn : 0 ≤ c ∧ c ≤ 1000000) :
 Calls Try.prog 76 #[v, .int .i64 c, .agg #[.int .i64 k, .int .i64 p, .int .i64 n, tv, ov]] w fun e w' => ∃ u M, e = .returned u ∧ OwnI w' w.heap.size u M ∧ (closedL ts op).Perm M ∧ Ext w w' := by
 have hT0 := hT
 have hO0 := hO
 obtain ⟨m, hm⟩ : ∃ m, ts.length = m := ⟨_, rfl⟩
 obtain ⟨aV, cV, rfl, hcT1, hcT2⟩ := hT.val
 obtain ⟨aO, cO, rfl, hcO1, hcO2⟩ := hO.val
 rw [List.length_map, hm] at hT hT0 hcT1
 rw [List.length_map, hm]
 have hm12 : m ≤ 12 := by rw [← hm]; exact hN.len
 have hop12 : op.length ≤ 12 := hN.rank
 have HM := Lib.hid hm; have HR := Lib.hid hr; have HN := Lib.hid hN; have HD3 := Lib.hid hN.dims3; clear hm  hN
 have hTl : Hid ((ts.map (tenOf dm)).length = m) := Lib.hid (by rw [List.length_map]; exact HM.out)
 have HCL : Hid ((closedL ts op).length ≤ 12) := Lib.hid (closedL_len HN.out)
 obtain ⟨CC, hCC⟩ : ∃ q, closedL ts op = q := ⟨_, rfl⟩
 rw [hCC] at HCL ⊢
 have HCC := Lib.hid hCC; clear hCC
 have hl0 := hl
 obtain ⟨a, cap, rfl, hc1, hc2⟩ := hl.bytes.val
 have HL := Lib.hid hl0; clear hl0
 go_enter Try.func76, Try.ntmps76
 go_upto_region 1 with fail
 have hH : Held w w [] := Held.new (Ext.refl w) 0
 have hB : Held w (w.alloc (.cells #[.int .i64 k, .int .i64 p, .int .i64 n, .slice aV m cV, .slice aO op.length cO] 29)) [aB (w.heap.size) 29 [.int .i64 k, .int .i64 p, .int .i64 n, .slice aV m cV, .slice aO op.length cO]] := by
  have h := (hH.mores 1).addB 0 #[.int .i64 k, .int .i64 p, .int .i64 n, .slice aV m cV, .slice aO op.length cO] 29
  exact h
 have hsz : (w.alloc (.cells #[.int .i64 k, .int .i64 p, .int .i64 n, .slice aV m cV, .slice aO op.length cO] 29)).heap.size = w.heap.size + 1 := by simp
 generalize w.alloc (.cells #[.int .i64 k, .int .i64 p, .int .i64 n, .slice aV m cV, .slice aO op.length cO] 29) = wn1 at hB hsz ⊢
 replace hH := hB; have HSZwn1 := Lib.hid hsz; clear hB hsz
 replace hH := hH.mores 2
 replace hH : Held w wn1 [aB (w.heap.size) 29 [.int .i64 k, .int .i64 p, .int .i64 n, .slice aV m cV, .slice aO op.length cO], emp, emp] := hH
 refine wp_region_steps ?Fa (fun b t wx => ∃ (cb : Nat), ∃ (M : List Int), Held w wx [aB (w.heap.size) 29 [.int .i64 k, .int .i64 p, .int .i64 n, .slice aV m cV, .slice aO op.length cO], (bif b 5 then emp else (bif b 4 then aI (t 4) CC else emp)), (bif b 5 then aI (t 5) M else emp)] ∧ (b 2 = true → w.heap.size + 1 ≤ cb) ∧ (b 2 = true → (b 5 = true ∨ Cur wx cb l)) ∧ (b 5 = true → Hid (CC.Perm M)) ∧ (b 0 = true → t 0 = .slice a l.length cap) ∧ (b 1 = true → t 1 = .int .i64 c) ∧ (b 2 = true → t 2 = .pointer (some ⟨cb, 0, none⟩)) ∧ (b 3 = true → t 3 = .agg #[.int .i64 k, .int .i64 p, .int .i64 n, .slice aV m cV, .slice aO op.length cO]) ∧ (b 4 = true → ∃ y d n, t 4 = .slice y n d) ∧ (b 5 = true → ∃ x d n, t 5 = .slice x n d) ∧ (b 6 = true → t 6 = t 5)) ?hFa (by kernel_rfl) (by kernel_rfl) ?hJa ?hSa ?hEa
 (case hFa => intro t; simp only [putAll, Act.put, List.setIfInBounds_toArray, List.set_cons_zero, List.set_cons_succ, Nat.reduceAdd, Nat.zero_add]; exact rfl)
 case hJa => exact ⟨0, [], hH.grow ((Ext.refl _).drew), fun h => absurd h Bool.false_ne_true, fun h => absurd h Bool.false_ne_true, fun h => absurd h Bool.false_ne_true, fun h => absurd h Bool.false_ne_true, fun h => absurd h Bool.false_ne_true, fun h => absurd h Bool.false_ne_true, fun h => absurd h Bool.false_ne_true, fun h => absurd h Bool.false_ne_true, fun h => absurd h Bool.false_ne_true, fun h => absurd h Bool.false_ne_true⟩
 case hSa => as_aux_lemma =>
   refine AllSteps.cons (j := 1) rfl (fun b t wx hJ hb hd hcl Kc hK => ?_) ?_
   · obtain ⟨cb, M, hH, hcb, hC, hP, v0, v1, v2, v3, v4, v5, v6⟩ := hJ
     go_simp
     refine hK.out _ ?_ _ ?_ ?_; rotate_left 2
     · rfl
     exact ⟨cb, M, hH, hcb, hC, hP, fun _ => rfl, v1, v2, v3, v4, v5, v6⟩
   refine AllSteps.cons (j := 2) rfl (fun b t wx hJ hb hd hcl Kc hK => ?_) ?_
   · obtain ⟨cb, M, hH, hcb, hC, hP, v0, v1, v2, v3, v4, v5, v6⟩ := hJ
     go_simp
     refine hK.out _ ?_ _ ?_ ?_; rotate_left 2
     · rfl
     exact ⟨cb, M, hH, hcb, hC, hP, v0, fun _ => rfl, v2, v3, v4, v5, v6⟩
   refine AllSteps.cons (j := 3) rfl (fun b t wx hJ hb hd hcl Kc hK => ?_) ?_
   · obtain ⟨cb, M, hH, hcb, hC, hP, v0, v1, v2, v3, v4, v5, v6⟩ := hJ
     have d0 := hd.out 0 (by kernel_rfl); have d1 := hd.out 1 (by kernel_rfl)
     have n4 : b 4 = false := Bool.eq_false_iff.2 fun h => absurd (hcl.out 4 2 (by kernel_rfl) (h)) (by rw [hb]; exact Bool.false_ne_true)
     have n5 : b 5 = false := Bool.eq_false_iff.2 fun h => absurd (hcl.out 5 2 (by kernel_rfl) (h)) (by rw [hb]; exact Bool.false_ne_true)
     have r0 := v0 d0; have r1 := v1 d1
     have hN := hH; (try simp only [hb, d0, d1, n4, n5, cond_true, cond_false] at hN)
     go_simp
     go_at_call 84
     refine (l45At_any _ l c _ (HL.out.ext hH.ext) hn).mono ?_; rintro e2 w2 ⟨cb', rfl, hb', c1, h1⟩
     (try go_simp)
     refine hK.out _ ?_ _ ?_ ?_; rotate_left 2
     · (try simp only [r0, r1]); rfl
     exact ⟨cb', M, by have hX := hN.grow h1; simpa only [List.set_cons_zero, List.set_cons_succ, updB, updV, blkOf_mk, tup0_mk, partsOf3, Nat.reduceBEq, cond_true, cond_false, hb, d0, d1, n4, n5, r0, r1] using hX, (fun _ => by have h := (hN.fpr (k := 0) rfl (w.heap.size) (by simp [aB])).2; omega), (fun _ => .inr c1), (fun h => absurd (show b 5 = true from h) (by rw [n5]; exact Bool.false_ne_true)), v0, v1, fun _ => rfl, v3, v4, v5, v6⟩
   refine AllSteps.cons (j := 4) rfl (fun b t wx hJ hb hd hcl Kc hK => ?_) ?_
   · obtain ⟨cb, M, hH, hcb, hC, hP, v0, v1, v2, v3, v4, v5, v6⟩ := hJ
     have q0_0 := hH.cl 0 0 rfl rfl; have q0_1 := hH.cl 0 1 rfl rfl; have q0_2 := hH.cl 0 2 rfl rfl; have q0_3 := hH.cl 0 3 rfl rfl; have q0_4 := hH.cl 0 4 rfl rfl
     go_simp
     refine hK.out _ ?_ _ ?_ ?_; rotate_left 2
     · rfl
     exact ⟨cb, M, hH, hcb, hC, hP, v0, v1, v2, fun _ => rfl, v4, v5, v6⟩
   refine AllSteps.cons (j := 5) rfl (fun b t wx hJ hb hd hcl Kc hK => ?_) ?_
   · obtain ⟨cb, M, hH, hcb, hC, hP, v0, v1, v2, v3, v4, v5, v6⟩ := hJ
     have d2 := hd.out 2 (by kernel_rfl); have d3 := hd.out 3 (by kernel_rfl)
     have n5 : b 5 = false := Bool.eq_false_iff.2 fun h => absurd (hcl.out 5 4 (by kernel_rfl) (h)) (by rw [hb]; exact Bool.false_ne_true)
     have r2 := v2 d2; have r3 := v3 d3
     have hN := hH; (try simp only [hb, d2, d3, n5, cond_true, cond_false] at hN)
     go_simp
     go_at_call 152
     refine (l21Closed_any HR.out HN.out _ _ _ (hT0.ext hH.ext) (hO.ext hH.ext)).mono ?_; rintro e4 w4 ⟨v4, rfl, o4, h4⟩
     rw [HCC.out] at o4
     have hcd := ((hC d2).resolve_left (by rw [n5]; exact Bool.false_ne_true))
     obtain ⟨y4, q4c, rfl⟩ := o4.shapeN rfl
     (try go_simp)
     refine hK.out _ ?_ _ ?_ ?_; rotate_left 2
     · (try simp only [r2, r3]); rfl
     exact ⟨cb, M, by have hX := hN.addI 1 h4 o4 (Nat.le_refl _); simpa only [List.set_cons_zero, List.set_cons_succ, updB, updV, blkOf_mk, tup0_mk, partsOf3, Nat.reduceBEq, cond_true, cond_false, hb, d2, d3, n5, r2, r3] using hX, hcb, (fun _ => .inr (hcd.ext h4)), (fun h => absurd (show b 5 = true from h) (by rw [n5]; exact Bool.false_ne_true)), v0, v1, v2, v3, fun _ => ⟨_, _, _, rfl⟩, v5, v6⟩
   refine AllSteps.cons (j := 6) rfl (fun b t wx hJ hb hd hcl Kc hK => ?_) ?_
   · obtain ⟨cb, M, hH, hcb, hC, hP, v0, v1, v2, v3, v4, v5, v6⟩ := hJ
     have d2 := hd.out 2 (by kernel_rfl); have d4 := hd.out 4 (by kernel_rfl)
     have n6 : b 6 = false := Bool.eq_false_iff.2 fun h => absurd (hcl.out 6 5 (by kernel_rfl) (h)) (by rw [hb]; exact Bool.false_ne_true)
     have r2 := v2 d2; have r4 := v4 d4
     obtain ⟨y_4, d_4, n_4, r4⟩ := r4
     have hN := hH; (try simp only [hb, d2, d4, n6, cond_true, cond_false] at hN)
     go_simp
     go_at_call 151
     refine (l06Shuffle_any cb _ CC _ ((hC d2).resolve_left (by rw [hb]; exact Bool.false_ne_true)) (by have h := hN.ints (k := 1) rfl; rw [r4] at h; exact h) (by have := HCL.out; omega)).mono ?_; rintro e5 w5 ⟨v, M', rfl, o5, hp5, c5, g5⟩
     have hq := hcb d2
     obtain ⟨y5, q5c, rfl⟩ := o5.shapeN rfl
     have HPM := Lib.hid hp5.symm
     (try go_simp)
     refine hK.out _ ?_ _ ?_ ?_; rotate_left 2
     · (try simp only [r2, r4]); rfl
     exact ⟨cb, M', by have hX := (((hN.drop 1).join (HeldX.oneX g5 o5) (fun z hz => by cases hz; exact ⟨by omega, fun A hA hc => by simp at hA; rcases hA with rfl | rfl | rfl <;> simp [aB, emp] at hc <;> omega⟩)).sub (.cons_cons _ (.cons_cons _ (.cons _ (.cons_cons _ .slnil))))); simpa only [List.set_cons_zero, List.set_cons_succ, updB, updV, blkOf_mk, tup0_mk, partsOf3, Nat.reduceBEq, cond_true, cond_false, hb, d2, d4, n6, r2, r4] using hX, hcb, (fun _ => .inl rfl), (fun _ => HPM), v0, v1, v2, v3, v4, fun _ => ⟨_, _, _, rfl⟩, fun h => absurd (show b 6 = true from h) (by rw [n6]; exact Bool.false_ne_true)⟩
   refine AllSteps.cons (j := 7) rfl (fun b t wx hJ hb hd hcl Kc hK => ?_) ?_
   · obtain ⟨cb, M, hH, hcb, hC, hP, v0, v1, v2, v3, v4, v5, v6⟩ := hJ
     have d0 := hd.out 0 (by kernel_rfl); have d1 := hd.out 1 (by kernel_rfl); have d2 := hd.out 2 (by kernel_rfl); have d3 := hd.out 3 (by kernel_rfl); have d4 := hd.out 4 (by kernel_rfl); have d5 := hd.out 5 (by kernel_rfl); have r0 := v0 d0; have r1 := v1 d1; have r2 := v2 d2; have r3 := v3 d3; have r4 := v4 d4; have r5 := v5 d5
     obtain ⟨y_4, d_4, n_4, r4⟩ := r4
     obtain ⟨x_5, d_5, n_5, r5⟩ := r5
     go_simp
     refine hK.out _ ?_ _ ?_ ?_; rotate_left 2
     · (try simp only [r0, r1, r2, r3, r4, r5]); rfl
     exact ⟨cb, M, hH, hcb, hC, hP, v0, v1, v2, v3, v4, v5, fun _ => (by first | rfl | exact r5.symm)⟩
   exact AllSteps.nil
 case hEa =>
  intro b t wa hJ hall
  obtain ⟨cba, Ma, hHa, hcba, hCa, hPa, v0, v1, v2, v3, v4, v5, v6⟩ := hJ
  have a0 := hall 0 (by decide); have a1 := hall 1 (by decide); have a2 := hall 2 (by decide); have a3 := hall 3 (by decide); have a4 := hall 4 (by decide); have a5 := hall 5 (by decide); have a6 := hall 6 (by decide)
  (try simp only [a0, a1, a2, a3, a4, a5, a6, cond_true] at hHa)
  replace v0 := v0 a0; replace v1 := v1 a1; replace v2 := v2 a2; replace v3 := v3 a3; replace v4 := v4 a4; replace v5 := v5 a5; replace v6 := v6 a6
  replace hcba := hcba a2
  replace hCa := hCa a2
  replace hPa := hPa a5
  clear hall a0 a1 a2 a3 a4 a5 a6
  generalize t 6 = x6 at hHa v6 ⊢; generalize t 5 = x5 at hHa v5 v6 ⊢; generalize t 4 = x4 at hHa v4 ⊢; generalize t 3 = x3 at hHa v3 ⊢; generalize t 2 = x2 at hHa v2 ⊢; generalize t 1 = x1 at hHa v1 ⊢; generalize t 0 = x0 at hHa v0 ⊢; subst v0; subst v1; subst v2; subst v3
  obtain ⟨ya4, da4, na4, rfl⟩ := v4
  obtain ⟨xa5, da5, na5, rfl⟩ := v5
  subst v6
  clear hCa
  clear b
  replace hH := hHa; clear hHa
  replace hH : Held w wa [aB (w.heap.size) 29 [.int .i64 k, .int .i64 p, .int .i64 n, .slice aV m cV, .slice aO op.length cO], emp, aI (.slice xa5 na5 da5) Ma] := hH
  have HP := hPa; have HO := Lib.hid (hH.own (k := 2) rfl); have HE := Lib.hid hH.ext; clear hH
  go_wp2
  go_ret
  exact ⟨_, Ma, rfl, HO.out, HP.out, HE.out⟩
end Go.Proofs.Ytpegckmagiaggaa
