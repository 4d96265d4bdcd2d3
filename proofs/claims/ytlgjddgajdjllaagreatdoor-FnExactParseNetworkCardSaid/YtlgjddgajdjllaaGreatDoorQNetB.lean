/- NetworkOk of the program, of valid tensors over a valid ring and any open labels. -/
import Derived.Test.YtlgjddgajdjllaaGreatDoorQDimsB
import Derived.Test.YtlgjddgajdjllaaGreatDoorQAxesW
set_option linter.unusedSimpArgs false
set_option linter.unusedVariables false
namespace Go.Proofs.YtlgjddgajdjllaaGreatDoor
open Go.RowKit
theorem axs3_of {k p n : Int} (hr : ringOk k p n = true) {T : List Ten3} (h : ∀ t ∈ T, tensOk k p n t.1 t.2.1 t.2.2 = true) : Axs3 T := ⟨fun t ht => ((tensOk_iff hr).1 (h t ht)).ax⟩
set_option maxRecDepth 100000 in
set_option maxHeartbeats 4000000 in
theorem networkOk_gen {k p n : Int} (hr : ringOk k p n = true) {T : List Ten3} (hK : ∀ t ∈ T, tensOk k p n t.1 t.2.1 t.2.2 = true) (hm12 : T.length ≤ 12) {O : List Int} (tv ov : Value) (w : World) (hT : TensS w tv T) (hO : IntS w ov O) :
 Calls Tryz.prog 10 #[.agg #[.int .i64 k, .int .i64 p, .int .i64 n, tv, ov]] w fun e w' => e = .returned (.bool (netB T O)) ∧ Ext w w' := by
 have hT0 := hT
 have hO0 := hO
 obtain ⟨m, hm⟩ : ∃ m, T.length = m := ⟨_, rfl⟩
 obtain ⟨aV, cV, rfl, hcT1, hcT2⟩ := hT.val
 obtain ⟨aO, cO, rfl, hcO1, hcO2⟩ := hO.val
 rw [hm] at hT hT0 hcT1 hm12
 rw [hm]
 have HM := Lib.hid hm; have HR := Lib.hid hr; have HK := Lib.hid hK; have HX := Lib.hid (axs3_of hr hK); clear hm hr hK
 obtain ⟨RB, hRB⟩ : ∃ q, netB T O = q := ⟨_, rfl⟩
 rw [hRB]
 have HRB := Lib.hid hRB; clear hRB
 go_enter Tryz.func10, Tryz.ntmps10
 go_upto_region 1 with fail
 have hH : Held w w [] := Held.new (Ext.refl w) 0
 have hB : Held w (w.alloc (.cells #[.int .i64 k, .int .i64 p, .int .i64 n, .slice aV m cV, .slice aO O.length cO] 29)) [aB (w.heap.size) 29 [.int .i64 k, .int .i64 p, .int .i64 n, .slice aV m cV, .slice aO O.length cO]] := by
  have h := (hH.mores 1).addB 0 #[.int .i64 k, .int .i64 p, .int .i64 n, .slice aV m cV, .slice aO O.length cO] 29
  exact h
 have hsz : (w.alloc (.cells #[.int .i64 k, .int .i64 p, .int .i64 n, .slice aV m cV, .slice aO O.length cO] 29)).heap.size = w.heap.size + 1 := by simp
 generalize w.alloc (.cells #[.int .i64 k, .int .i64 p, .int .i64 n, .slice aV m cV, .slice aO O.length cO] 29) = wn1 at hB hsz ⊢
 replace hH := hB; have HSZwn1 := Lib.hid hsz; clear hB hsz
 obtain ⟨wz, rfl⟩ : ∃ q, q = wn1 := ⟨wn1, rfl⟩
 obtain ⟨q0_0, q0_1, q0_2, q0_3, q0_4, l0_⟩ := hH.c5 0 rfl
 go_wp2_with fail
 clear q0_0 q0_1 q0_2 q0_3 q0_4 l0_
 refine (ringOk_impl k p n _).mono ?_; rintro ewn2 wn2 ⟨rfl, hwn2⟩
 rw [HR.out]
 replace hH : Held w wn2 [aB (w.heap.size) 29 [.int .i64 k, .int .i64 p, .int .i64 n, .slice aV m cV, .slice aO O.length cO]] := hH.grow hwn2
 clear hwn2
 have hb12 : ¬ (12 : Int) < (m : Int) := by omega
 by_cases hol : 12 < O.length
 ·
  have hbo12 : (12 : Int) < (O.length : Int) := by omega
  have HRF : Hid (RB = false) := Lib.hid (by rw [← HRB.out]; unfold netB; rw [openB_long hol, Bool.and_false])
  obtain ⟨q0_0, q0_1, q0_2, q0_3, q0_4, l0_⟩ := hH.c5 0 rfl
  have HE := Lib.hid hH.ext
  go_wp2
  all_goals go_ret
  all_goals exact ⟨by rw [HRF.out]; rfl, HE.out⟩
 ·
  have hbo12 : ¬ (12 : Int) < (O.length : Int) := by omega
  obtain ⟨q0_0, q0_1, q0_2, q0_3, q0_4, l0_⟩ := hH.c5 0 rfl
  go_wp2_with fail
  clear q0_0 q0_1 q0_2 q0_3 q0_4 l0_
  clear hb12 hbo12
  go_loopw [28] (fun i wr => ∃ j : Nat, j ≤ m ∧ i = .int .i64 (j : Int) ∧ Held w wr [aB (w.heap.size) 29 [.int .i64 k, .int .i64 p, .int .i64 n, .slice aV m cV, .slice aO O.length cO]]) (fun i wr => m - (RowKit.intOf i).toNat)
  case atStart => exact ⟨0, Nat.zero_le _, rfl, hH⟩
  case round =>
   clear hH
   obtain ⟨j, hj, rfl, hH⟩ := hrel
   obtain ⟨wq, rfl⟩ : ∃ q, q = wr := ⟨wr, rfl⟩
   by_cases hlt : j < m
   ·
    obtain ⟨bT, oT, u1, u2, u3, t3, hV, hu0, hu1, hu2, ht3, hTu⟩ := hT.get (i := j) (by rw [HM.out]; exact hlt)
    subst hV
    have HTK := Lib.hid (HK.out t3 (List.mem_of_getElem? ht3)); clear ht3
    obtain ⟨tl, td, tx⟩ := t3
    obtain ⟨e1, m1, f1, e2, m2, f2, e3, m3, f3, hvv⟩ := hTu.shape
    simp at hvv
    obtain ⟨rfl, rfl, rfl⟩ := hvv
    rw [Nat.mul_comm 3 j] at hu0 hu1 hu2
    simp only at hTu
    obtain ⟨q0_0, q0_1, q0_2, q0_3, q0_4, l0_⟩ := hH.c5 0 rfl; have c_hu0 := hH.ext.cell hu0; have c_hu1 := hH.ext.cell hu1; have c_hu2 := hH.ext.cell hu2
    go_upto_region 6 with fail
    clear q0_0 q0_1 q0_2 q0_3 q0_4 l0_ c_hu0 c_hu1 c_hu2
    have hB : Held w (wq.alloc (.cells #[.slice e1 m1 f1, .slice e2 m2 f2, .slice e3 m3 f3] 52)) [aB (w.heap.size) 29 [.int .i64 k, .int .i64 p, .int .i64 n, .slice (some ⟨bT, oT, none⟩) m cV, .slice aO O.length cO], aB (wq.heap.size) 52 [.slice e1 m1 f1, .slice e2 m2 f2, .slice e3 m3 f3]] := by
     have h := (hH.mores 1).addB 1 #[.slice e1 m1 f1, .slice e2 m2 f2, .slice e3 m3 f3] 52
     exact h
    have hsz : (wq.alloc (.cells #[.slice e1 m1 f1, .slice e2 m2 f2, .slice e3 m3 f3] 52)).heap.size = wq.heap.size + 1 := by simp
    generalize wq.alloc (.cells #[.slice e1 m1 f1, .slice e2 m2 f2, .slice e3 m3 f3] 52) = wn3 at hB hsz ⊢
    replace hH := hB; have HSZwn3 := Lib.hid hsz; clear hB hsz
    obtain ⟨q0_0, q0_1, q0_2, q0_3, q0_4, l0_⟩ := hH.c5 0 rfl; obtain ⟨q1_0, q1_1, q1_2, l1_⟩ := hH.c3 1 rfl; have c_hu0 := hH.ext.cell hu0; have c_hu1 := hH.ext.cell hu1; have c_hu2 := hH.ext.cell hu2
    go_wp2_with fail
    clear q0_0 q0_1 q0_2 q0_3 q0_4 l0_ q1_0 q1_1 q1_2 l1_ c_hu0 c_hu1 c_hu2
    refine (tensorOk_impl k p n _ tl td tx _ (hTu.ext hH.ext)).mono ?_; rintro ewn4 wn4 ⟨rfl, hwn4⟩
    rw [HTK.out]
    replace hH : Held w wn4 [aB (w.heap.size) 29 [.int .i64 k, .int .i64 p, .int .i64 n, .slice (some ⟨bT, oT, none⟩) m cV, .slice aO O.length cO], aB (wq.heap.size) 52 [.slice e1 m1 f1, .slice e2 m2 f2, .slice e3 m3 f3]] := hH.grow hwn4
    clear hwn4
    go_wp2_with fail
    go_roundw
    case rel => exact ⟨j + 1, by omega, by go_num, hH.sub (.cons_cons _ (.cons _ .slnil))⟩
    case measure => simp [RowKit.intOf]; omega
   ·
    have hje : j = m := by omega
    subst hje
    obtain ⟨m, hmj⟩ : ∃ q, q = j := ⟨j, rfl⟩
    subst hmj
    clear hlt hj
    obtain ⟨wo, rfl⟩ : ∃ q, q = wq := ⟨wq, rfl⟩
    obtain ⟨q0_0, q0_1, q0_2, q0_3, q0_4, l0_⟩ := hH.c5 0 rfl
    go_wp2_with fail
    clear q0_0 q0_1 q0_2 q0_3 q0_4 l0_
    cases hcb : consB T
    ·
     obtain ⟨jb, qb, tb, xb, db, hbad⟩ := bad_of HX.out hcb
     have HCB := Lib.hid hcb; clear hcb
     refine (dimsOf_bad hbad HX.out (by rw [HM.out]; omega) _ _ (hT0.ext hH.ext)).mono ?_; rintro ewn5 wn5 ⟨AB, rfl, hAB, hwn5⟩
     replace hH : Held w wn5 [aB (w.heap.size) 29 [.int .i64 k, .int .i64 p, .int .i64 n, .slice aV m cV, .slice aO O.length cO]] := hH.grow hwn5
     clear hwn5
     go_upto_region 10 with (first | (refine wpList_alloc_arr rfl rfl ?_) | (refine wpList_store_arr (A0 := (List.replicate 100 0)) rfl _ _ rfl rfl rfl (by have h := Blk.new wn5 (arrV (List.replicate 100 0)) 62; rw [arrV_list] at h; exact h) hAB (List.length_replicate ..) ?_; rintro wn6 hg hB hs))
     replace hH : Held w wn6 [aB (w.heap.size) 29 [.int .i64 k, .int .i64 p, .int .i64 n, .slice aV m cV, .slice aO O.length cO], aB (wn5.heap.size) 62 (ints AB)] := (hH.mores 1).add 1 (((Ext.refl _).alloc _).only hg (fun q hq => by cases hq; exact Nat.le_refl _)) hB (fun q hq => by simp [aB] at hq; subst hq; exact Nat.le_refl _)
     clear hg hB hs
     have HRF : Hid (RB = false) := Lib.hid (by rw [← HRB.out]; unfold netB; rw [HCB.out, Bool.false_and])
     obtain ⟨q0_0, q0_1, q0_2, q0_3, q0_4, l0_⟩ := hH.c5 0 rfl
     have HE := Lib.hid hH.ext
     go_wp2
     all_goals go_ret
     all_goals exact ⟨by rw [HRF.out]; rfl, HE.out⟩
    ·
     have HD3 := Lib.hid (cons_dims3 HX.out hcb)
     have HNB : Hid (netB T O = openB T O) := Lib.hid (by unfold netB; rw [hcb, Bool.true_and])
     obtain ⟨dm, hdm⟩ : ∃ f, dimF T = f := ⟨_, rfl⟩
     rw [hdm] at HD3
     have HDM := Lib.hid hdm; clear hdm hcb
     refine (dimsOf_any HD3.out (by rw [HM.out]; omega) _ _ (hT0.ext hH.ext)).mono ?_; rintro ewn7 wn7 ⟨rfl, hwn7⟩
     replace hH : Held w wn7 [aB (w.heap.size) 29 [.int .i64 k, .int .i64 p, .int .i64 n, .slice aV m cV, .slice aO O.length cO]] := hH.grow hwn7
     clear hwn7
     go_upto_region 10 with (first | (refine wpList_alloc_arr rfl rfl ?_) | (refine wpList_store_arr (A0 := (List.replicate 100 0)) rfl _ _ rfl rfl rfl (by have h := Blk.new wn7 (arrV (List.replicate 100 0)) 62; rw [arrV_list] at h; exact h) (arrL_length _ _) (List.length_replicate ..) ?_; rintro wn8 hg hB hs))
     replace hH : Held w wn8 [aB (w.heap.size) 29 [.int .i64 k, .int .i64 p, .int .i64 n, .slice aV m cV, .slice aO O.length cO], aB (wn7.heap.size) 62 (ints (arrL dm (occ3 T)))] := (hH.mores 1).add 1 (((Ext.refl _).alloc _).only hg (fun q hq => by cases hq; exact Nat.le_refl _)) hB (fun q hq => by simp [aB] at hq; subst hq; exact Nat.le_refl _)
     clear hg hB hs
     obtain ⟨q0_0, q0_1, q0_2, q0_3, q0_4, l0_⟩ := hH.c5 0 rfl
     go_wp2_with fail
     clear q0_0 q0_1 q0_2 q0_3 q0_4 l0_
     go_loopw [49] (fun i wr => ∃ q : Nat, q ≤ O.length ∧ i = .int .i64 (q : Int) ∧ Hid (∀ x ∈ O.take q, (0 ≤ x ∧ x ≤ 99) ∧ x ∈ occ3 T) ∧ Held w wr [aB (w.heap.size) 29 [.int .i64 k, .int .i64 p, .int .i64 n, .slice aV m cV, .slice aO O.length cO], aB (wn7.heap.size) 62 (ints (arrL dm (occ3 T)))]) (fun i wr => O.length - (RowKit.intOf i).toNat)
     case atStart => exact ⟨0, Nat.zero_le _, rfl, Lib.hid (by simp), hH⟩
     case round =>
      clear hH
      obtain ⟨q, hq, rfl, HGO, hH⟩ := hrel
      obtain ⟨wt, rfl⟩ : ∃ q, q = wr := ⟨wr, rfl⟩
      by_cases hlq : q < O.length
      ·
       obtain ⟨bO, oO, x, rfl, hcO, hx, _⟩ := hO.get hlq
       have HOX := Lib.hid (List.mem_of_getElem? hx)
       have HXG := Lib.hid hx; clear hx
       by_cases hx0 : x < 0
       ·
        have HRF : Hid (RB = false) := Lib.hid (by rw [← HRB.out]; rw [HNB.out]; exact openB_bad HOX.out (.inl hx0))
        obtain ⟨q0_0, q0_1, q0_2, q0_3, q0_4, l0_⟩ := hH.c5 0 rfl; have c_hcO := hH.ext.cell hcO
        have HE := Lib.hid hH.ext
        go_wp2
        all_goals go_ret
        all_goals exact ⟨by rw [HRF.out]; rfl, HE.out⟩
       ·
        by_cases hx1 : 99 < x
        ·
         have HRF : Hid (RB = false) := Lib.hid (by rw [← HRB.out]; rw [HNB.out]; exact openB_bad HOX.out (.inr (.inl hx1)))
         obtain ⟨q0_0, q0_1, q0_2, q0_3, q0_4, l0_⟩ := hH.c5 0 rfl; have c_hcO := hH.ext.cell hcO
         have HE := Lib.hid hH.ext
         go_wp2
         all_goals go_ret
         all_goals exact ⟨by rw [HRF.out]; rfl, HE.out⟩
        ·
         obtain ⟨c, rfl⟩ : ∃ c : Nat, x = (c : Int) := ⟨x.toNat, by omega⟩
         have hc : c < 100 := by omega
         have hc3 : (0 : Int) ≤ (c : Int) := by omega
         have hc4 : (c : Int) < 100 := by omega
         have hcA := (hH.blk (k := 1) rfl).cell (j := c) (u := .int .i64 (if hasL (occ3 T) (c : Int) = true then dm c else 0)) (by rw [ints_get, arrL_get dm _ hc]; rfl)
         have hlA := hH.bl 1 rfl
         by_cases hhas : hasL (occ3 T) (c : Int) = true
         · rw [if_pos hhas] at hcA
           have hmem := (hasL_iff _ _).1 hhas
           have hdx : 1 ≤ dm c := by have h := (dimF_bounds HX.out hmem).1; rw [HDM.out] at h; exact h
           have hc2 : ¬ dm c = 0 := by omega
           have hc2b : (dm c == 0) = false := by rw [beq_eq_false_iff_ne]; exact hc2
           have HGN : Hid (∀ x ∈ O.take (q + 1), (0 ≤ x ∧ x ≤ 99) ∧ x ∈ occ3 T) := Lib.hid (fun y hy => by
            rw [List.take_add_one, HXG.out] at hy
            rcases List.mem_append.1 hy with hy | hy
            · exact HGO.out y hy
            · simp at hy; subst hy; exact ⟨⟨by omega, by omega⟩, hmem⟩)
           clear hhas hmem
           obtain ⟨q0_0, q0_1, q0_2, q0_3, q0_4, l0_⟩ := hH.c5 0 rfl; have c_hcO := hH.ext.cell hcO
           go_wp2_with fail
           go_roundw
           case rel => exact ⟨q + 1, by omega, by go_num, HGN, hH⟩
           case measure => simp [RowKit.intOf]; omega
         · rw [if_neg hhas] at hcA
           have HRF : Hid (RB = false) := Lib.hid (by rw [← HRB.out]; rw [HNB.out]; exact openB_bad HOX.out (.inr (.inr (dimF_no fun h => hhas ((hasL_iff _ _).2 h)))))
           obtain ⟨q0_0, q0_1, q0_2, q0_3, q0_4, l0_⟩ := hH.c5 0 rfl; have c_hcO := hH.ext.cell hcO
           have HE := Lib.hid hH.ext
           go_wp2
           all_goals go_ret
           all_goals exact ⟨by rw [HRF.out]; rfl, HE.out⟩
      ·
       have HGA : Hid (∀ x ∈ O, (0 ≤ x ∧ x ≤ 99) ∧ x ∈ occ3 T) := Lib.hid (by have h := HGO.out; rwa [List.take_of_length_le (by omega)] at h)
       have hB0 := hH.blk (k := 1) rfl
       obtain ⟨q0_0, q0_1, q0_2, q0_3, q0_4, l0_⟩ := hH.c5 0 rfl
       go_wp2_with (first | (refine wpList_load_arr rfl _ rfl rfl hB0 (arrL_length _ _) ?_))
       clear q0_0 q0_1 q0_2 q0_3 q0_4 l0_
       clear hB0
       refine (axesOf_any HGA.out (by omega) _ _ (hO.ext hH.ext)).mono ?_; rintro ewn9 wn9 ⟨x1, y1, rfl, hJ⟩
       replace hH : Held w wn9 [aB (w.heap.size) 29 [.int .i64 k, .int .i64 p, .int .i64 n, .slice aV m cV, .slice aO O.length cO], aB (wn7.heap.size) 62 (ints (arrL dm (occ3 T))), aI x1 O, aI y1 (O.map dm)] := hH.join hJ (fun q hq => by cases hq)
       clear hJ
       obtain ⟨q0_0, q0_1, q0_2, q0_3, q0_4, l0_⟩ := hH.c5 0 rfl
       go_wp2_with fail
       clear q0_0 q0_1 q0_2 q0_3 q0_4 l0_
       refine (tensorSize_impl _ O (O.map dm) [] _ ⟨_, _, _, rfl, hH.ints (k := 2) rfl, hH.ints (k := 3) rfl, IntS.nil _⟩).mono ?_; rintro ewn10 wn10 ⟨rfl, hwn10⟩
       replace hH : Held w wn10 [aB (w.heap.size) 29 [.int .i64 k, .int .i64 p, .int .i64 n, .slice aV m cV, .slice aO O.length cO], aB (wn7.heap.size) 62 (ints (arrL dm (occ3 T))), aI x1 O, aI y1 (O.map dm)] := hH.grow hwn10
       clear hwn10
       have HRE : Hid (RB = !(tsize O (O.map dm) == -1)) := Lib.hid (by rw [← HRB.out, HNB.out]; unfold openB; rw [HDM.out])
       have HE := Lib.hid hH.ext; clear hH
       cases hts : (tsize O (O.map dm) == -1)
       · have HTS := Lib.hid hts
         have hti : ¬ tsize O (O.map dm) = -1 := by rw [beq_eq_false_iff_ne] at hts; exact hts
         go_wp2
         all_goals go_ret
         all_goals exact ⟨by rw [HRE.out, HTS.out]; simp [*], HE.out⟩
       · have HTS := Lib.hid hts
         have hti : tsize O (O.map dm) = -1 := eq_of_beq hts
         rw [hti]; clear hts hti
         go_wp2
         all_goals go_ret
         all_goals exact ⟨by rw [HRE.out, HTS.out]; simp [*], HE.out⟩
end Go.Proofs.YtlgjddgajdjllaaGreatDoor
