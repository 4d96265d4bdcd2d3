/- startState of the program. -/
import Derived.Test.YtpegckmagiaggaaTG12
set_option linter.unusedSimpArgs false
set_option linter.unusedVariables false
namespace Go.Proofs.Ytpegckmagiaggaa
open Go.RowKit
def numL (m : Nat) : List Int := (List.range m).map fun i : Nat => (i : Int)
theorem numL_succ (m : Nat) : numL (m + 1) = numL m ++ [(m : Int)] := by simp [numL, List.range_succ]
theorem numL_len (m : Nat) : (numL m).length = m := by simp [numL]
theorem live_noS {ex : Option Nat} {a w : World} {L : List Asn} {k1 k2 s : Nat} {T : TypeId} {xs : List Value} {v : Value} {cs : List (Int × Value)} {ls : List (List Int)} (h : HeldX ex a w L) (h1 : L[k1]? = some (aB s T xs)) (h2 : L[k2]? = some (aLv v cs ls)) (hne : k2 ≠ k1) : s ∉ (aLv v cs ls).fp :=
  h.others h1 k2 _ hne h2 s (by simp [aB])
set_option maxRecDepth 100000 in
set_option maxHeartbeats 8000000 in
theorem startState_any {k p n : Int} (hr : ringOk k p n = true) {dm : Int → Int} {U : List Int} {ts : List (NT k p n)} {op : List Int} (hN : IsN k p n dm U ts op) (tv ov : Value) (w : World) (hT : TensS w tv (ts.map (tenOf dm))) (hO : IntS w ov op) :
 Calls Try.prog 135 #[.agg #[.int .i64 k, .int .i64 p, .int .i64 n, tv, ov]] w fun e w' => ∃ s cs, e = .returned (.pointer (some ⟨s, 0, none⟩)) ∧ Ext w w' ∧ w.heap.size ≤ s ∧ OrdS w' s (arrL dm (occ ts)) op cs (ts.map (·.1)) (ts.length : Int) ∧ cs.map (·.1) = numL ts.length := by
 have hT0 := hT
 have hO0 := hO
 obtain ⟨m, hm⟩ : ∃ m, ts.length = m := ⟨_, rfl⟩
 obtain ⟨aV, cV, rfl, hcT1, hcT2⟩ := hT.val
 obtain ⟨aO, cO, rfl, hcO1, hcO2⟩ := hO.val
 rw [List.length_map, hm] at hT hT0 hcT1
 rw [List.length_map, hm]
 have hm12 : m ≤ 12 := by rw [← hm]; exact hN.len
 have hop12 : op.length ≤ 12 := hN.rank
 have HM := Lib.hid hm; have HR := Lib.hid hr; have HN := Lib.hid hN; have HD3 := Lib.hid hN.dims3; clear hm hr hN
 have hTl : Hid ((ts.map (tenOf dm)).length = m) := Lib.hid (by rw [List.length_map]; exact HM.out)
 obtain ⟨A, hA⟩ : ∃ q, arrL dm (occ ts) = q := ⟨_, rfl⟩
 have hal : A.length = 100 := by rw [← hA]; exact arrL_length _ _
 have HAA := Lib.hid hA; have HAL := Lib.hid hal; clear hA hal
 go_enter Try.func135, Try.ntmps135
 go_upto_region 1 with fail
 have hH : Held w w [] := Held.new (Ext.refl w) 0
 have hB : Held w (w.alloc (.cells #[.int .i64 k, .int .i64 p, .int .i64 n, .slice aV m cV, .slice aO op.length cO] 29)) [aB (w.heap.size) 29 [.int .i64 k, .int .i64 p, .int .i64 n, .slice aV m cV, .slice aO op.length cO]] := by
  have h := (hH.mores 1).addB 0 #[.int .i64 k, .int .i64 p, .int .i64 n, .slice aV m cV, .slice aO op.length cO] 29
  exact h
 have hsz : (w.alloc (.cells #[.int .i64 k, .int .i64 p, .int .i64 n, .slice aV m cV, .slice aO op.length cO] 29)).heap.size = w.heap.size + 1 := by simp
 generalize w.alloc (.cells #[.int .i64 k, .int .i64 p, .int .i64 n, .slice aV m cV, .slice aO op.length cO] 29) = wn1 at hB hsz ⊢
 replace hH := hB; have HSZwn1 := Lib.hid hsz; clear hB hsz
 have q0_0 := hH.cl 0 0 rfl rfl; have q0_1 := hH.cl 0 1 rfl rfl; have q0_2 := hH.cl 0 2 rfl rfl; have q0_3 := hH.cl 0 3 rfl rfl; have q0_4 := hH.cl 0 4 rfl rfl; have l0_ := hH.bl 0 rfl
 go_wp2_with fail
 clear q0_0 q0_1 q0_2 q0_3 q0_4 l0_
 refine (dimsOf_any HD3.out (by rw [hTl.out]; omega) _ _ (hT.ext hH.ext)).mono ?_; rintro ewn2 wn2 ⟨rfl, hwn2⟩
 rw [occ3_ten, HAA.out]
 replace hH : Held w wn2 [aB (w.heap.size) 29 [.int .i64 k, .int .i64 p, .int .i64 n, .slice aV m cV, .slice aO op.length cO]] := hH.grow hwn2
 clear hwn2
 go_upto_region 2 with (first | (refine wpList_alloc_arr rfl rfl ?_) | (refine wpList_store_arr (A0 := (List.replicate 100 0)) rfl _ _ rfl rfl rfl (by have h := Blk.new wn2 (arrV (List.replicate 100 0)) 99; rw [arrV_list] at h; exact h) HAL.out (List.length_replicate ..) ?_; rintro wn3 hg hB hs))
 replace hH : Held w wn3 [aB (w.heap.size) 29 [.int .i64 k, .int .i64 p, .int .i64 n, .slice aV m cV, .slice aO op.length cO], aB (wn2.heap.size) 99 (ints A)] := (hH.mores 1).add 1 (((Ext.refl _).alloc _).only hg (fun q hq => by cases hq; exact Nat.le_refl _)) hB (fun q hq => by simp [aB] at hq; subst hq; exact Nat.le_refl _)
 clear hg hB hs
 have hB0 := hH.blk (k := 1) rfl
 have q0_0 := hH.cl 0 0 rfl rfl; have q0_1 := hH.cl 0 1 rfl rfl; have q0_2 := hH.cl 0 2 rfl rfl; have q0_3 := hH.cl 0 3 rfl rfl; have q0_4 := hH.cl 0 4 rfl rfl; have l0_ := hH.bl 0 rfl
 go_wp2_with (first | (refine wpList_load_arr rfl _ rfl rfl hB0 HAL.out ?_) | (refine wpList_build_state rfl _ _ _ rfl HAL.out rfl rfl rfl ?_) | (refine wpList_box_state rfl _ rfl rfl ?_))
 clear q0_0 q0_1 q0_2 q0_3 q0_4 l0_
 clear hB0
 have hB : Held w (wn3.alloc (.cells (arrV A ++ #[.slice aO op.length cO, .slice none 0 0, .int .i64 (m : Int)]) 143)) [aB (w.heap.size) 29 [.int .i64 k, .int .i64 p, .int .i64 n, .slice aV m cV, .slice aO op.length cO], aB (wn2.heap.size) 99 (ints A), aB (wn3.heap.size) 143 (ints A ++ [.slice aO op.length cO, .slice none 0 0, .int .i64 (m : Int)])] := by
  have h := (hH.mores 1).addB 2 (arrV A ++ #[.slice aO op.length cO, .slice none 0 0, .int .i64 (m : Int)]) 143; rw [Array.toList_append, arrV_list] at h
  exact h
 have hsz : (wn3.alloc (.cells (arrV A ++ #[.slice aO op.length cO, .slice none 0 0, .int .i64 (m : Int)]) 143)).heap.size = wn3.heap.size + 1 := by simp
 generalize wn3.alloc (.cells (arrV A ++ #[.slice aO op.length cO, .slice none 0 0, .int .i64 (m : Int)]) 143) = wn4 at hB hsz ⊢
 replace hH := hB; have HSZwn4 := Lib.hid hsz; clear hB hsz
 have hsw : w.heap.size ≤ wn3.heap.size := by have := (hH.fpr (k := 2) rfl wn3.heap.size (by simp [aB])).1; exact this
 obtain ⟨s, hs⟩ : ∃ q, wn3.heap.size = q := ⟨_, rfl⟩
 rw [hs] at hH hsw
 rw [hs]
 clear hs
 replace hH := hH.nilLv
 replace hH : Held w wn4 [aB (w.heap.size) 29 [.int .i64 k, .int .i64 p, .int .i64 n, .slice aV m cV, .slice aO op.length cO], aB (wn2.heap.size) 99 (ints A), aB s 143 (ints A ++ [.slice aO op.length cO, .slice none 0 0, .int .i64 (m : Int)]), aLv (.slice none 0 0) [] []] := hH
 obtain ⟨wa, rfl⟩ : ∃ q, q = wn4 := ⟨wn4, rfl⟩
 go_loopw [25] (fun i wr => ∃ (j : Nat) (lv : Value) (cs : List (Int × Value)), j ≤ m ∧ i = .int .i64 (j : Int) ∧ Hid (cs.map (·.1) = numL j) ∧ Held w wr [aB (w.heap.size) 29 [.int .i64 k, .int .i64 p, .int .i64 n, .slice aV m cV, .slice aO op.length cO], aB (wn2.heap.size) 99 (ints A), aB s 143 (ints A ++ [.slice aO op.length cO, lv, .int .i64 (m : Int)]), aLv lv cs ((ts.take j).map (·.1))]) (fun i wr => m - (RowKit.intOf i).toNat)
 case atStart => exact ⟨0, _, _, Nat.zero_le _, rfl, Lib.hid rfl, hH⟩
 case round =>
  clear hH
  obtain ⟨j, lv, cs, hj, rfl, HCS, hH⟩ := hrel
  obtain ⟨LS, hLS⟩ : ∃ q, (ts.take j).map (·.1) = q := ⟨_, rfl⟩
  rw [hLS] at hH
  have hll : LS.length = j := by rw [← hLS, List.length_map, List.length_take, HM.out]; omega
  have HLL := Lib.hid hll; have HLS := Lib.hid hLS; clear hLS hll
  obtain ⟨aS, cS, hlv⟩ := OwnLv.shape (hH.get (k := 3) rfl : OwnLv _ _ cs LS)
  rw [HLL.out] at hlv
  subst hlv
  obtain ⟨wq, rfl⟩ : ∃ q, q = wr := ⟨wr, rfl⟩
  by_cases hlt : j < m
  ·
   obtain ⟨bT, oT, u1, u2, u3, t3, hV, hu0, hu1, hu2, ht3, hTu⟩ := hT.get (i := j) (by rw [hTl.out]; exact hlt)
   subst hV
   obtain ⟨t, htj, rfl⟩ : ∃ t, ts[j]? = some t ∧ tenOf dm t = t3 := by rw [List.getElem?_map] at ht3; exact Option.map_eq_some_iff.1 ht3
   have HTJ := Lib.hid htj; have HTI := Lib.hid (HN.out.ten t (List.mem_of_getElem? htj)); clear ht3 htj
   obtain ⟨tl, xs⟩ := t
   obtain ⟨e1, m1, f1, e2, m2, f2, e3, m3, f3, hvv⟩ := hTu.shape
   simp at hvv
   obtain ⟨rfl, rfl, rfl⟩ := hvv
   rw [Nat.mul_comm 3 j] at hu0 hu1 hu2
   obtain ⟨_, _, _, hvv, hTL, hTD, hTX⟩ := hTu.val
   simp at hvv
   obtain ⟨rfl, rfl, rfl⟩ := hvv
   simp only [tenOf] at hTu hTL hTD hTX HTI
   obtain ⟨_, _, hvv, _, _⟩ := hTL.val
   simp at hvv
   obtain ⟨rfl, rfl, rfl⟩ := hvv
   obtain ⟨_, _, hvv, _, _⟩ := hTD.val
   simp at hvv
   obtain ⟨rfl, rfl, rfl⟩ := hvv
   have HLT := Lib.hid (show (ts.take (j + 1)).map (·.1) = LS ++ [tl] by rw [List.take_add_one, HTJ.out, List.map_append, HLS.out]; rfl)
   have hrk : tl.length ≤ 12 := HTI.out.ax.rank
   have q0_0 := hH.cl 0 0 rfl rfl; have q0_1 := hH.cl 0 1 rfl rfl; have q0_2 := hH.cl 0 2 rfl rfl; have q0_3 := hH.cl 0 3 rfl rfl; have q0_4 := hH.cl 0 4 rfl rfl; have l0_ := hH.bl 0 rfl; have c_hu0 := hH.ext.cell hu0; have c_hu1 := hH.ext.cell hu1; have c_hu2 := hH.ext.cell hu2
   go_upto_region 6 with fail
   clear q0_0 q0_1 q0_2 q0_3 q0_4 l0_ c_hu0 c_hu1 c_hu2
   have hB : Held w (wq.alloc (.cells #[.slice e1 tl.length f1, .slice e2 tl.length f2, .slice e3 m3 f3] 32)) [aB (w.heap.size) 29 [.int .i64 k, .int .i64 p, .int .i64 n, .slice (some ⟨bT, oT, none⟩) m cV, .slice aO op.length cO], aB (wn2.heap.size) 99 (ints A), aB s 143 (ints A ++ [.slice aO op.length cO, .slice aS j cS, .int .i64 (m : Int)]), aLv (.slice aS j cS) cs LS, aB (wq.heap.size) 32 [.slice e1 tl.length f1, .slice e2 tl.length f2, .slice e3 m3 f3]] := by
    have h := (hH.mores 1).addB 4 #[.slice e1 tl.length f1, .slice e2 tl.length f2, .slice e3 m3 f3] 32
    exact h
   have hsz : (wq.alloc (.cells #[.slice e1 tl.length f1, .slice e2 tl.length f2, .slice e3 m3 f3] 32)).heap.size = wq.heap.size + 1 := by simp
   generalize wq.alloc (.cells #[.slice e1 tl.length f1, .slice e2 tl.length f2, .slice e3 m3 f3] 32) = wn5 at hB hsz ⊢
   replace hH := hB; have HSZwn5 := Lib.hid hsz; clear hB hsz
   replace hH := hH.mores 2
   replace hH : Held w wn5 [aB (w.heap.size) 29 [.int .i64 k, .int .i64 p, .int .i64 n, .slice (some ⟨bT, oT, none⟩) m cV, .slice aO op.length cO], aB (wn2.heap.size) 99 (ints A), aB s 143 (ints A ++ [.slice aO op.length cO, .slice aS j cS, .int .i64 (m : Int)]), aLv (.slice aS j cS) cs LS, aB (wq.heap.size) 32 [.slice e1 tl.length f1, .slice e2 tl.length f2, .slice e3 m3 f3], emp, emp] := hH
   refine wp_region_steps ?Fa (fun b t wx => Held w wx [aB (w.heap.size) 29 [.int .i64 k, .int .i64 p, .int .i64 n, .slice (some ⟨bT, oT, none⟩) m cV, .slice aO op.length cO], aB (wn2.heap.size) 99 (ints A), (bif b 14 then aB s 143 (ints A ++ [.slice aO op.length cO, t 11, .int .i64 (m : Int)]) else aB s 143 (ints A ++ [.slice aO op.length cO, .slice aS j cS, .int .i64 (m : Int)])), (bif b 11 then aLv (t 11) (cs ++ [((j : Int), t 8)]) (LS ++ [tl]) else aLv (.slice aS j cS) cs LS), aB (wq.heap.size) 32 [.slice e1 tl.length f1, .slice e2 tl.length f2, .slice e3 m3 f3], (bif b 11 then emp else (bif b 8 then aI (t 8) tl else emp)), (bif b 10 then aB (blkS (t 10)) 140 [.int .i64 (j : Int), t 8] else emp)] ∧ (b 0 = true → t 0 = .pointer (some ⟨s, 0, none⟩)) ∧ (b 1 = true → t 1 = .pointer (some ⟨s, 0, none⟩)) ∧ (b 2 = true → t 2 = .pointer (some ⟨s, 0, none⟩)) ∧ (b 3 = true → t 3 = .pointer (some ⟨s, 101, none⟩)) ∧ (b 4 = true → t 4 = .slice aS j cS) ∧ (b 5 = true → t 5 = .int .i64 (j : Int)) ∧ (b 6 = true → t 6 = .pointer (some ⟨wq.heap.size, 0, none⟩)) ∧ (b 7 = true → t 7 = .slice e1 tl.length f1) ∧ (b 8 = true → ∃ x c, t 8 = .slice x tl.length c) ∧ (b 9 = true → t 9 = .agg #[.int .i64 (j : Int), t 8]) ∧ (b 10 = true → ∃ z, t 10 = .slice (some ⟨z, 0, none⟩) 1 1) ∧ (b 11 = true → ∃ a c, t 11 = .slice a (j + 1) c) ∧ (b 12 = true → t 12 = .pointer (some ⟨s, 0, none⟩)) ∧ (b 13 = true → t 13 = .pointer (some ⟨s, 101, none⟩))) ?hFa (by kernel_rfl) (by kernel_rfl) ?hJa ?hSa ?hEa
   (case hFa => intro t; simp only [putAll, Act.put, List.setIfInBounds_toArray, List.set_cons_zero, List.set_cons_succ, Nat.reduceAdd, Nat.zero_add]; exact rfl)
   case hJa => exact ⟨hH.grow ((Ext.refl _).drew), fun h => absurd h Bool.false_ne_true, fun h => absurd h Bool.false_ne_true, fun h => absurd h Bool.false_ne_true, fun h => absurd h Bool.false_ne_true, fun h => absurd h Bool.false_ne_true, fun h => absurd h Bool.false_ne_true, fun h => absurd h Bool.false_ne_true, fun h => absurd h Bool.false_ne_true, fun h => absurd h Bool.false_ne_true, fun h => absurd h Bool.false_ne_true, fun h => absurd h Bool.false_ne_true, fun h => absurd h Bool.false_ne_true, fun h => absurd h Bool.false_ne_true, fun h => absurd h Bool.false_ne_true⟩
   case hSa => as_aux_lemma =>
     refine AllSteps.cons (j := 1) rfl (fun b t wx hJ hb hd hcl Kc hK => ?_) ?_
     · obtain ⟨hH, v0, v1, v2, v3, v4, v5, v6, v7, v8, v9, v10, v11, v12, v13⟩ := hJ
       go_simp
       refine hK.out _ ?_ _ ?_ ?_; rotate_left 2
       · rfl
       exact ⟨hH, fun _ => rfl, v1, v2, v3, v4, v5, v6, v7, v8, v9, v10, v11, v12, v13⟩
     refine AllSteps.cons (j := 2) rfl (fun b t wx hJ hb hd hcl Kc hK => ?_) ?_
     · obtain ⟨hH, v0, v1, v2, v3, v4, v5, v6, v7, v8, v9, v10, v11, v12, v13⟩ := hJ
       go_simp
       refine hK.out _ ?_ _ ?_ ?_; rotate_left 2
       · rfl
       exact ⟨hH, v0, fun _ => rfl, v2, v3, v4, v5, v6, v7, v8, v9, v10, v11, v12, v13⟩
     refine AllSteps.cons (j := 3) rfl (fun b t wx hJ hb hd hcl Kc hK => ?_) ?_
     · obtain ⟨hH, v0, v1, v2, v3, v4, v5, v6, v7, v8, v9, v10, v11, v12, v13⟩ := hJ
       have d1 := hd.out 1 (by kernel_rfl); have r1 := v1 d1
       go_simp
       refine hK.out _ ?_ _ ?_ ?_; rotate_left 2
       · (try simp only [r1]); rfl
       exact ⟨hH, v0, v1, fun _ => rfl, v3, v4, v5, v6, v7, v8, v9, v10, v11, v12, v13⟩
     refine AllSteps.cons (j := 4) rfl (fun b t wx hJ hb hd hcl Kc hK => ?_) ?_
     · obtain ⟨hH, v0, v1, v2, v3, v4, v5, v6, v7, v8, v9, v10, v11, v12, v13⟩ := hJ
       have d2 := hd.out 2 (by kernel_rfl); have r2 := v2 d2
       go_simp
       refine hK.out _ ?_ _ ?_ ?_; rotate_left 2
       · (try simp only [r2]); rfl
       exact ⟨hH, v0, v1, v2, fun _ => rfl, v4, v5, v6, v7, v8, v9, v10, v11, v12, v13⟩
     refine AllSteps.cons (j := 5) rfl (fun b t wx hJ hb hd hcl Kc hK => ?_) ?_
     · obtain ⟨hH, v0, v1, v2, v3, v4, v5, v6, v7, v8, v9, v10, v11, v12, v13⟩ := hJ
       have d3 := hd.out 3 (by kernel_rfl)
       have n14 : b 14 = false := Bool.eq_false_iff.2 fun h => absurd (hcl.out 14 4 (by kernel_rfl) (h)) (by rw [hb]; exact Bool.false_ne_true)
       have r3 := v3 d3
       have hN := hH; (try simp only [hb, d3, n14, cond_true, cond_false] at hN)
       have B := hN.blk (k := 2) rfl
       have z1 := (state_100 HAL.out B).2.1
       go_simp
       refine hK.out _ ?_ _ ?_ ?_; rotate_left 2
       · (try simp only [r3]); rfl
       exact ⟨hH, v0, v1, v2, v3, fun _ => rfl, v5, v6, v7, v8, v9, v10, v11, v12, v13⟩
     refine AllSteps.cons (j := 6) rfl (fun b t wx hJ hb hd hcl Kc hK => ?_) ?_
     · obtain ⟨hH, v0, v1, v2, v3, v4, v5, v6, v7, v8, v9, v10, v11, v12, v13⟩ := hJ
       go_simp
       refine hK.out _ ?_ _ ?_ ?_; rotate_left 2
       · rfl
       exact ⟨hH, v0, v1, v2, v3, v4, fun _ => rfl, v6, v7, v8, v9, v10, v11, v12, v13⟩
     refine AllSteps.cons (j := 7) rfl (fun b t wx hJ hb hd hcl Kc hK => ?_) ?_
     · obtain ⟨hH, v0, v1, v2, v3, v4, v5, v6, v7, v8, v9, v10, v11, v12, v13⟩ := hJ
       go_simp
       refine hK.out _ ?_ _ ?_ ?_; rotate_left 2
       · rfl
       exact ⟨hH, v0, v1, v2, v3, v4, v5, fun _ => rfl, v7, v8, v9, v10, v11, v12, v13⟩
     refine AllSteps.cons (j := 8) rfl (fun b t wx hJ hb hd hcl Kc hK => ?_) ?_
     · obtain ⟨hH, v0, v1, v2, v3, v4, v5, v6, v7, v8, v9, v10, v11, v12, v13⟩ := hJ
       have d6 := hd.out 6 (by kernel_rfl); have r6 := v6 d6; have q4_0 := hH.cl 4 0 rfl rfl
       go_simp
       refine hK.out _ ?_ _ ?_ ?_; rotate_left 2
       · (try simp only [r6]); rfl
       exact ⟨hH, v0, v1, v2, v3, v4, v5, v6, fun _ => rfl, v8, v9, v10, v11, v12, v13⟩
     refine AllSteps.cons (j := 9) rfl (fun b t wx hJ hb hd hcl Kc hK => ?_) ?_
     · obtain ⟨hH, v0, v1, v2, v3, v4, v5, v6, v7, v8, v9, v10, v11, v12, v13⟩ := hJ
       have d7 := hd.out 7 (by kernel_rfl)
       have n9 : b 9 = false := Bool.eq_false_iff.2 fun h => absurd (hcl.out 9 8 (by kernel_rfl) (h)) (by rw [hb]; exact Bool.false_ne_true)
       have n10 : b 10 = false := Bool.eq_false_iff.2 fun h => absurd (hcl.out 9 8 (by kernel_rfl) (hcl.out 10 9 (by kernel_rfl) (h))) (by rw [hb]; exact Bool.false_ne_true)
       have n11 : b 11 = false := Bool.eq_false_iff.2 fun h => absurd (hcl.out 11 8 (by kernel_rfl) (h)) (by rw [hb]; exact Bool.false_ne_true)
       have r7 := v7 d7
       have hN := hH; (try simp only [hb, d7, n9, n10, n11, cond_true, cond_false] at hN)
       go_simp
       go_at_call 100
       refine (copyInts_any _ tl _ (hTL.ext hH.ext) (by omega)).mono ?_; rintro e8 w8 ⟨v8, rfl, o8, h8⟩
       obtain ⟨x8, c8, rfl, _, _⟩ := o8.ints.val
       (try go_simp)
       refine hK.out _ ?_ _ ?_ ?_; rotate_left 2
       · (try simp only [r7]); rfl
       exact ⟨by have hX := hN.addI 5 h8 o8 (Nat.le_refl _); simpa only [List.set_cons_zero, List.set_cons_succ, updB, updV, blkOf_mk, tup0_mk, partsOf3, blkS_mk, Nat.reduceBEq, cond_true, cond_false, hb, d7, n9, n10, n11, r7] using hX, v0, v1, v2, v3, v4, v5, v6, v7, fun _ => ⟨_, _, rfl⟩, fun h => absurd (show b 9 = true from h) (by rw [n9]; exact Bool.false_ne_true), v10, v11, v12, v13⟩
     refine AllSteps.cons (j := 10) rfl (fun b t wx hJ hb hd hcl Kc hK => ?_) ?_
     · obtain ⟨hH, v0, v1, v2, v3, v4, v5, v6, v7, v8, v9, v10, v11, v12, v13⟩ := hJ
       have d5 := hd.out 5 (by kernel_rfl); have d8 := hd.out 8 (by kernel_rfl); have r5 := v5 d5; have r8 := v8 d8
       obtain ⟨x_8, c_8, r8⟩ := r8
       have e8 := r8 -- d8
       go_simp
       refine hK.out _ ?_ _ ?_ ?_; rotate_left 2
       · (try simp only [r5, r8]); rfl
       exact ⟨hH, v0, v1, v2, v3, v4, v5, v6, v7, v8, fun _ => (by show Value.agg _ = Value.agg #[_, t 8]; rw [r8]), v10, v11, v12, v13⟩
     refine AllSteps.cons (j := 11) rfl (fun b t wx hJ hb hd hcl Kc hK => ?_) ?_
     · obtain ⟨hH, v0, v1, v2, v3, v4, v5, v6, v7, v8, v9, v10, v11, v12, v13⟩ := hJ
       have d8 := hcl.out 9 8 (by kernel_rfl) (hd.out 9 (by kernel_rfl)); have d9 := hd.out 9 (by kernel_rfl); have r8 := v8 d8; have r9 := v9 d9
       obtain ⟨x_8, c_8, r8⟩ := r8
       have hN := hH; (try simp only [hb, d8, d9, cond_true, cond_false] at hN)
       rw [r8] at r9 -- d8 d9
       go_simp
       refine hK.out _ ?_ _ ?_ ?_; rotate_left 2
       · (try simp only [r8, r9]); rfl
       exact ⟨by have hX := hN.addB 6 #[.int .i64 (j : Int), .slice x_8 tl.length c_8] 140; simpa only [List.set_cons_zero, List.set_cons_succ, updB, updV, blkOf_mk, tup0_mk, partsOf3, blkS_mk, Nat.reduceBEq, cond_true, cond_false, hb, d8, d9, r8, r9] using hX, v0, v1, v2, v3, v4, v5, v6, v7, v8, v9, fun _ => ⟨_, rfl⟩, v11, v12, v13⟩
     refine AllSteps.cons (j := 12) rfl (fun b t wx hJ hb hd hcl Kc hK => ?_) ?_
     · obtain ⟨hH, v0, v1, v2, v3, v4, v5, v6, v7, v8, v9, v10, v11, v12, v13⟩ := hJ
       have d4 := hd.out 4 (by kernel_rfl); have d8 := hd.out 8 (by kernel_rfl); have d10 := hd.out 10 (by kernel_rfl)
       have n14 : b 14 = false := Bool.eq_false_iff.2 fun h => absurd (hcl.out 14 11 (by kernel_rfl) (h)) (by rw [hb]; exact Bool.false_ne_true)
       have r4 := v4 d4; have r8 := v8 d8; have r10 := v10 d10
       obtain ⟨x_8, c_8, r8⟩ := r8
       obtain ⟨z_10, r10⟩ := r10
       have hN := hH; (try simp only [hb, d4, d8, d10, n14, cond_true, cond_false] at hN)
       rw [r8, r10] at hN -- d8 d10
       refine step_app wx rfl _ _ 141 rfl (.slice aS j cS) (t 10) (by first | rfl | (go_simp; done)) (by first | rfl | (go_simp; done)) _ (run_pushLv _ (j : Int) hN (k1 := 3) (k2 := 5) rfl rfl (by decide) (by rw [r10]; have h := hN.blk (k := 6) rfl; exact row_blk2 h) (by rw [HLL.out]; omega)) ?_; rintro va wa ⟨hHa, ga⟩
       obtain ⟨aa, ca, hva⟩ := OwnLv.shape (hHa.get (k := 3) rfl : OwnLv _ _ _ (LS ++ [tl]))
       rw [List.length_append, List.length_singleton, HLL.out] at hva
       subst hva
       refine hK.out _ ?_ _ ?_ ?_; rotate_left 2
       · (try simp only [r4, r8, r10]); rfl
       exact ⟨by have hX := hHa; simpa only [List.set_cons_zero, List.set_cons_succ, updB, updV, blkOf_mk, tup0_mk, partsOf3, blkS_mk, Nat.reduceBEq, cond_true, cond_false, hb, d4, d8, d10, n14, r4, r8, r10] using hX, v0, v1, v2, v3, v4, v5, v6, v7, v8, v9, v10, fun _ => ⟨_, _, rfl⟩, v12, v13⟩
     refine AllSteps.cons (j := 13) rfl (fun b t wx hJ hb hd hcl Kc hK => ?_) ?_
     · obtain ⟨hH, v0, v1, v2, v3, v4, v5, v6, v7, v8, v9, v10, v11, v12, v13⟩ := hJ
       have d0 := hd.out 0 (by kernel_rfl); have d1 := hd.out 1 (by kernel_rfl); have d2 := hd.out 2 (by kernel_rfl); have d3 := hd.out 3 (by kernel_rfl); have d4 := hd.out 4 (by kernel_rfl); have d5 := hd.out 5 (by kernel_rfl); have d6 := hd.out 6 (by kernel_rfl); have d7 := hd.out 7 (by kernel_rfl); have d8 := hd.out 8 (by kernel_rfl); have d9 := hd.out 9 (by kernel_rfl); have d10 := hd.out 10 (by kernel_rfl); have d11 := hd.out 11 (by kernel_rfl); have r0 := v0 d0; have r1 := v1 d1; have r2 := v2 d2; have r3 := v3 d3; have r4 := v4 d4; have r5 := v5 d5; have r6 := v6 d6; have r7 := v7 d7; have r8 := v8 d8; have r9 := v9 d9; have r10 := v10 d10; have r11 := v11 d11
       obtain ⟨x_8, c_8, r8⟩ := r8
       obtain ⟨z_10, r10⟩ := r10
       obtain ⟨a_11, c_11, r11⟩ := r11
       go_simp
       refine hK.out _ ?_ _ ?_ ?_; rotate_left 2
       · (try simp only [r0, r1, r2, r3, r4, r5, r6, r7, r8, r9, r10, r11]); rfl
       exact ⟨hH, v0, v1, v2, v3, v4, v5, v6, v7, v8, v9, v10, v11, fun _ => rfl, v13⟩
     refine AllSteps.cons (j := 14) rfl (fun b t wx hJ hb hd hcl Kc hK => ?_) ?_
     · obtain ⟨hH, v0, v1, v2, v3, v4, v5, v6, v7, v8, v9, v10, v11, v12, v13⟩ := hJ
       have d0 := hd.out 0 (by kernel_rfl); have d1 := hd.out 1 (by kernel_rfl); have d2 := hd.out 2 (by kernel_rfl); have d3 := hd.out 3 (by kernel_rfl); have d4 := hd.out 4 (by kernel_rfl); have d5 := hd.out 5 (by kernel_rfl); have d6 := hd.out 6 (by kernel_rfl); have d7 := hd.out 7 (by kernel_rfl); have d8 := hd.out 8 (by kernel_rfl); have d9 := hd.out 9 (by kernel_rfl); have d10 := hd.out 10 (by kernel_rfl); have d11 := hd.out 11 (by kernel_rfl); have d12 := hd.out 12 (by kernel_rfl); have r0 := v0 d0; have r1 := v1 d1; have r2 := v2 d2; have r3 := v3 d3; have r4 := v4 d4; have r5 := v5 d5; have r6 := v6 d6; have r7 := v7 d7; have r8 := v8 d8; have r9 := v9 d9; have r10 := v10 d10; have r11 := v11 d11; have r12 := v12 d12
       obtain ⟨x_8, c_8, r8⟩ := r8
       obtain ⟨z_10, r10⟩ := r10
       obtain ⟨a_11, c_11, r11⟩ := r11
       go_simp
       refine hK.out _ ?_ _ ?_ ?_; rotate_left 2
       · (try simp only [r0, r1, r2, r3, r4, r5, r6, r7, r8, r9, r10, r11, r12]); rfl
       exact ⟨hH, v0, v1, v2, v3, v4, v5, v6, v7, v8, v9, v10, v11, v12, fun _ => rfl⟩
     refine AllSteps.cons (j := 15) rfl (fun b t wx hJ hb hd hcl Kc hK => ?_) ?_
     · obtain ⟨hH, v0, v1, v2, v3, v4, v5, v6, v7, v8, v9, v10, v11, v12, v13⟩ := hJ
       have d0 := hd.out 0 (by kernel_rfl); have d1 := hd.out 1 (by kernel_rfl); have d2 := hd.out 2 (by kernel_rfl); have d3 := hd.out 3 (by kernel_rfl); have d4 := hd.out 4 (by kernel_rfl); have d5 := hd.out 5 (by kernel_rfl); have d6 := hd.out 6 (by kernel_rfl); have d7 := hd.out 7 (by kernel_rfl); have d8 := hd.out 8 (by kernel_rfl); have d9 := hd.out 9 (by kernel_rfl); have d10 := hd.out 10 (by kernel_rfl); have d11 := hd.out 11 (by kernel_rfl); have d13 := hd.out 13 (by kernel_rfl); have r0 := v0 d0; have r1 := v1 d1; have r2 := v2 d2; have r3 := v3 d3; have r4 := v4 d4; have r5 := v5 d5; have r6 := v6 d6; have r7 := v7 d7; have r8 := v8 d8; have r9 := v9 d9; have r10 := v10 d10; have r11 := v11 d11; have r13 := v13 d13
       obtain ⟨x_8, c_8, r8⟩ := r8
       obtain ⟨z_10, r10⟩ := r10
       obtain ⟨a_11, c_11, r11⟩ := r11
       have hN := hH; (try simp only [hb, d0, d1, d2, d3, d4, d5, d6, d7, d8, d9, d10, d11, d13, cond_true, cond_false] at hN)
       have B := hN.blk (k := 2) rfl
       have z1 := (state_100 HAL.out B).2.1; have f1 := B.free 101; have lB := B.lt
       go_simp
       refine hK.out _ undef _ ?_ ?_; rotate_left 1
       · (try simp only [r0, r1, r2, r3, r4, r5, r6, r7, r8, r9, r10, r11, r13]); rfl
       exact ⟨by have hX := (by have h := hN.setB (k := 2) rfl 101 (t 11); rw [state_set101 HAL.out] at h; exact h); simpa only [List.set_cons_zero, List.set_cons_succ, updB, updV, blkOf_mk, tup0_mk, partsOf3, blkS_mk, Nat.reduceBEq, cond_true, cond_false, hb, d0, d1, d2, d3, d4, d5, d6, d7, d8, d9, d10, d11, d13, r0, r1, r2, r3, r4, r5, r6, r7, r8, r9, r10, r11, r13] using hX, v0, v1, v2, v3, v4, v5, v6, v7, v8, v9, v10, v11, v12, v13⟩
     exact AllSteps.nil
   case hEa =>
    intro b t wa hJ hall
    obtain ⟨hHa, v0, v1, v2, v3, v4, v5, v6, v7, v8, v9, v10, v11, v12, v13⟩ := hJ
    have a0 := hall 0 (by decide); have a1 := hall 1 (by decide); have a2 := hall 2 (by decide); have a3 := hall 3 (by decide); have a4 := hall 4 (by decide); have a5 := hall 5 (by decide); have a6 := hall 6 (by decide); have a7 := hall 7 (by decide); have a8 := hall 8 (by decide); have a9 := hall 9 (by decide); have a10 := hall 10 (by decide); have a11 := hall 11 (by decide); have a12 := hall 12 (by decide); have a13 := hall 13 (by decide); have a14 := hall 14 (by decide)
    (try simp only [a0, a1, a2, a3, a4, a5, a6, a7, a8, a9, a10, a11, a12, a13, a14, cond_true] at hHa)
    replace v0 := v0 a0; replace v1 := v1 a1; replace v2 := v2 a2; replace v3 := v3 a3; replace v4 := v4 a4; replace v5 := v5 a5; replace v6 := v6 a6; replace v7 := v7 a7; replace v8 := v8 a8; replace v9 := v9 a9; replace v10 := v10 a10; replace v11 := v11 a11; replace v12 := v12 a12; replace v13 := v13 a13
    clear hall a0 a1 a2 a3 a4 a5 a6 a7 a8 a9 a10 a11 a12 a13 a14
    generalize t 13 = x13 at hHa v13 ⊢; generalize t 12 = x12 at hHa v12 ⊢; generalize t 11 = x11 at hHa v11 ⊢; generalize t 10 = x10 at hHa v10 ⊢; generalize t 9 = x9 at hHa v9 ⊢; generalize t 8 = x8 at hHa v8 v9 ⊢; generalize t 7 = x7 at hHa v7 ⊢; generalize t 6 = x6 at hHa v6 ⊢; generalize t 5 = x5 at hHa v5 ⊢; generalize t 4 = x4 at hHa v4 ⊢; generalize t 3 = x3 at hHa v3 ⊢; generalize t 2 = x2 at hHa v2 ⊢; generalize t 1 = x1 at hHa v1 ⊢; generalize t 0 = x0 at hHa v0 ⊢; subst v0; subst v1; subst v2; subst v3; subst v4; subst v5; subst v6; subst v7
    obtain ⟨xa8, ca8, rfl⟩ := v8
    subst v9
    obtain ⟨za10, rfl⟩ := v10
    obtain ⟨aa11, ca11, rfl⟩ := v11
    subst v12; subst v13
    clear b
    replace hH := hHa; clear hHa
    replace hH : Held w wa [aB (w.heap.size) 29 [.int .i64 k, .int .i64 p, .int .i64 n, .slice (some ⟨bT, oT, none⟩) m cV, .slice aO op.length cO], aB (wn2.heap.size) 99 (ints A), aB s 143 (ints A ++ [.slice aO op.length cO, .slice aa11 (j + 1) ca11, .int .i64 (m : Int)]), aLv (.slice aa11 (j + 1) ca11) (cs ++ [((j : Int), .slice xa8 tl.length ca8)]) (LS ++ [tl]), aB (wq.heap.size) 32 [.slice e1 tl.length f1, .slice e2 tl.length f2, .slice e3 m3 f3], emp, aB za10 140 [.int .i64 (j : Int), .slice xa8 tl.length ca8]] := hH
    go_wp2_with fail
    go_roundw
    case rel => exact ⟨j + 1, _, cs ++ [((j : Int), .slice xa8 tl.length ca8)], by omega, by go_num, Lib.hid (by rw [List.map_append, HCS.out, numL_succ]; rfl), by rw [HLT.out]; exact hH.sub (.cons_cons _ (.cons_cons _ (.cons_cons _ (.cons_cons _ (.cons _ (.cons _ (.cons _ .slnil)))))))⟩
    case measure => simp [RowKit.intOf]; omega
  ·
   have hje : j = m := by omega
   subst hje
   have HLF : Hid (ts.map (·.1) = LS) := Lib.hid (by rw [← HLS.out, List.take_of_length_le (by rw [HM.out]; exact Nat.le_refl _)])
   have HO1 : Hid (OrdS wq s A op cs LS (j : Int)) := Lib.hid ⟨_, _, hH.blk (k := 2) rfl, hO0.ext hH.ext, fun hp e => by obtain ⟨b, o, x, hb, hc, _⟩ := hO0.get (i := 0) hp; subst hb; simp [Value.ownBlock] at e; subst e; have := World.block_lt_of_cell? _ _ hc; simp at this; omega, OwnLv.liveR (hH.get (k := 3) rfl) (live_noS hH (k1 := 2) (k2 := 3) rfl rfl (by decide))⟩
   have HE := Lib.hid hH.ext; clear hH
   go_wp2
   go_ret
   exact ⟨s, cs, rfl, HE.out, hsw, by rw [HAA.out, HLF.out]; exact HO1.out, HCS.out⟩
end Go.Proofs.Ytpegckmagiaggaa
