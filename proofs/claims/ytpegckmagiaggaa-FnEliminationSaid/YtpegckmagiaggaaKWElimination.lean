/- The law 'FnElimination', walked. -/
import Derived.Test.YtpegckmagiaggaaKElimLab
import Derived.Test.YtpegckmagiaggaaKElimB
import Derived.Test.YtpegckmagiaggaaKElimC
import Derived.Test.YtpegckmagiaggaaKWorthW
set_option linter.unusedSimpArgs false
set_option linter.unusedVariables false
namespace Go.Proofs.Ytpegckmagiaggaa
open Go.RowKit
theorem closedL_len6 {k p n : Int} {dm : Int → Int} {ts : List (NT k p n)} {op : List Int} (h : IsN k p n dm U6 ts op) : (closedL ts op).length ≤ 10 := by
  unfold closedL
  refine Nat.le_trans (List.length_filter_le _ _) ?_
  unfold ascL
  rw [← List.countP_eq_length_filter]
  refine Nat.le_trans (List.countP_mono_left (q := fun x => hasL U6 x) fun x _ hx => ?_) (by decide)
  exact (hasL_iff _ _).2 (h.occU ((hasL_iff _ _).1 hx))
def topM (l : List Int) (j : Nat) : Int := (l.take j).foldl max 0
theorem topM_succ {l : List Int} {j : Nat} {x : Int} (h : l[j]? = some x) : topM l (j + 1) = max (topM l j) x := by
  unfold topM; rw [List.take_add_one, h, List.foldl_append]; rfl
theorem topM_wid (ls : List (List Int)) (l : List Int) : topM (widI ls l) (widI ls l).length = maxW ls l := by
  unfold topM maxW widI
  rw [List.take_length, List.foldl_map]
set_option maxRecDepth 100000 in
set_option maxHeartbeats 8000000 in
theorem walkFnElimination (v : Value) (l : List Int) (w : World) (hl : ByteS w v l) (hall : ∀ x ∈ l, 0 ≤ x ∧ x ≤ 255) :
 Calls Try.prog 13 #[v] w fun e w' => e = .returned (.bool true) ∧ Ext w w' := by
 obtain ⟨ca, cap, rfl, hc1, hc2⟩ := hl.val
 by_cases big : 1048576 < l.length
 · go_enter Try.func13, Try.ntmps13
   go_wp2
   go_ret
   exact ⟨rfl, (by repeat' (first | (with_reducible exact Ext.refl _) | (with_reducible assumption) | (with_reducible apply Ext.alloc) | (with_reducible apply Ext.drew) | (with_reducible apply Ext.drewN) | (refine Ext.setAt ?_ (by omega) _ _) | (refine Ext.trans ?_ (by assumption))))⟩
 have hC : Code w (.slice ca l.length cap) l := ⟨hl, hall, by omega⟩
 clear hall hl
 have hH : Held w w [] := Held.new (Ext.refl w) 0
 go_enter Try.func13, Try.ntmps13
 go_wp2_with fail
 refine (makeRing_any _ l 0 _ (hC.ext hH.ext) (by omega)).mono ?_; rintro ewn1 wn1 ⟨k, p, n, rfl, hd, hwn1⟩
 have HR := Lib.hid (drawn_ok hd); clear hd
 replace hH : Held w wn1 [] := hH.grow hwn1
 clear hwn1
 go_wp2_with fail
 have hB : Held w (wn1.alloc (.cells #[.int .i64 k, .int .i64 p, .int .i64 n] 24)) [aB (wn1.heap.size) 24 [.int .i64 k, .int .i64 p, .int .i64 n]] := by
  have h := (hH.mores 1).addB 0 #[.int .i64 k, .int .i64 p, .int .i64 n] 24
  exact h
 have hsz : (wn1.alloc (.cells #[.int .i64 k, .int .i64 p, .int .i64 n] 24)).heap.size = wn1.heap.size + 1 := by simp
 generalize wn1.alloc (.cells #[.int .i64 k, .int .i64 p, .int .i64 n] 24) = wn2 at hB hsz ⊢
 replace hH := hB; have HSZwn2 := Lib.hid hsz; clear hB hsz
 have q0_0 := hH.cl 0 0 rfl rfl; have q0_1 := hH.cl 0 1 rfl rfl; have q0_2 := hH.cl 0 2 rfl rfl; have l0_ := hH.bl 0 rfl
 go_wp2_with fail
 clear q0_0 q0_1 q0_2 l0_
 refine (makeNetwork_any _ l 10 k p n 5 HR.out (by omega) (by omega) _ (hC.ext hH.ext) (by omega)).mono ?_; rintro ewN wN ⟨tv, ov, cs, ts, op, rfl, hJ, hN, hmost⟩
 have E0 : Ext w wN := hH.ext.trans hJ.ext
 have hT : TensS wN tv (ts.map (tenOf dimOf)) := hJ.tensS (k := 0) rfl
 have hO : IntS wN ov op := hJ.ints (k := 1) rfl
 have kr_0 := ((hH.grow hJ.ext).blk (k := 0) rfl).cell (j := 0) rfl
 have kr_1 := ((hH.grow hJ.ext).blk (k := 0) rfl).cell (j := 1) rfl
 have kr_2 := ((hH.grow hJ.ext).blk (k := 0) rfl).cell (j := 2) rfl
 have kr_l := ((hH.grow hJ.ext).blk (k := 0) rfl).lt
 have hCN := hC.ext E0
 obtain ⟨m, hm⟩ : ∃ m, ts.length = m := ⟨_, rfl⟩
 obtain ⟨aV, cV, rfl, hcT1, hcT2⟩ := hT.val
 obtain ⟨aO, cO, rfl, hcO1, hcO2⟩ := hO.val
 have hT0 : TensS wN (.slice aV m cV) (ts.map (tenOf dimOf)) := by rw [List.length_map, hm] at hT; exact hT
 rw [List.length_map, hm] at hT hcT1
 rw [List.length_map, hm]
 have hm12 : m ≤ 5 := by rw [← hm]; omega
 have hop12 : op.length ≤ 12 := hN.rank
 have HM := Lib.hid hm; have HN := Lib.hid hN; have HD3 := Lib.hid hN.dims3; clear hm hN hmost hJ hC
 have hTl : Hid ((ts.map (tenOf dimOf)).length = m) := Lib.hid (by rw [List.length_map]; exact HM.out)
 clear hH
 have hC := hCN; clear hCN
 have hH : Held wN wN [] := Held.new (Ext.refl _) 0
 have c_kr_0 := hH.ext.cell kr_0; have c_kr_1 := hH.ext.cell kr_1; have c_kr_2 := hH.ext.cell kr_2
 have c_kr_l := Nat.lt_of_lt_of_le kr_l hH.ext.size
 go_wp2_with fail
 clear c_kr_0 c_kr_1 c_kr_2 c_kr_l
 have hB : Held wN (wN.alloc (.cells #[.int .i64 k, .int .i64 p, .int .i64 n, .slice aV m cV, .slice aO op.length cO] 29)) [aB (wN.heap.size) 29 [.int .i64 k, .int .i64 p, .int .i64 n, .slice aV m cV, .slice aO op.length cO]] := by
  have h := (hH.mores 1).addB 0 #[.int .i64 k, .int .i64 p, .int .i64 n, .slice aV m cV, .slice aO op.length cO] 29
  exact h
 have hsz : (wN.alloc (.cells #[.int .i64 k, .int .i64 p, .int .i64 n, .slice aV m cV, .slice aO op.length cO] 29)).heap.size = wN.heap.size + 1 := by simp
 generalize wN.alloc (.cells #[.int .i64 k, .int .i64 p, .int .i64 n, .slice aV m cV, .slice aO op.length cO] 29) = wn3 at hB hsz ⊢
 replace hH := hB; have HSZwn3 := Lib.hid hsz; clear hB hsz
 have HC10 := Lib.hid (closedL_len6 HN.out)
 have HCN := Lib.hid (closedL_nodup ts op)
 obtain ⟨CC, hCC⟩ : ∃ q, closedL ts op = q := ⟨_, rfl⟩
 obtain ⟨LS, hLS⟩ : ∃ q, ts.map (·.1) = q := ⟨_, rfl⟩
 rw [hCC] at HC10 HCN
 obtain ⟨cN, hcN⟩ : ∃ q, CC.length = q := ⟨_, rfl⟩
 have hc10 : cN ≤ 10 := by rw [← hcN]; exact HC10.out
 obtain ⟨RX, hRX⟩ : ∃ q, netXs HR.out dimOf ts op = q := ⟨_, rfl⟩
 have HCC := Lib.hid hCC; have HLS := Lib.hid hLS; have HCL := Lib.hid hcN; have HRX := Lib.hid hRX
 clear hCC hLS hcN hRX
 have q0_0 := hH.cl 0 0 rfl rfl; have q0_1 := hH.cl 0 1 rfl rfl; have q0_2 := hH.cl 0 2 rfl rfl; have q0_3 := hH.cl 0 3 rfl rfl; have q0_4 := hH.cl 0 4 rfl rfl; have l0_ := hH.bl 0 rfl; have c_kr_0 := hH.ext.cell kr_0; have c_kr_1 := hH.ext.cell kr_1; have c_kr_2 := hH.ext.cell kr_2
 have c_kr_l := Nat.lt_of_lt_of_le kr_l hH.ext.size
 go_wp2_with fail
 clear q0_0 q0_1 q0_2 q0_3 q0_4 l0_ c_kr_0 c_kr_1 c_kr_2 c_kr_l
 refine (makeClosed_any _ l 100 HR.out HN.out _ _ _ (hT0.ext hH.ext) (hO.ext hH.ext) (hC.ext hH.ext) (by omega)).mono ?_; rintro ewn4 wn4 ⟨v1, M, rfl, o1, hpM, hwn4⟩
 rw [HCC.out] at hpM
 have HPM := Lib.hid hpM
 obtain ⟨xl, cl, rfl⟩ := o1.shape1 cN (by rw [← hpM.length_eq]; exact HCL.out)
 clear hpM
 replace hH : Held wN wn4 [aB (wN.heap.size) 29 [.int .i64 k, .int .i64 p, .int .i64 n, .slice aV m cV, .slice aO op.length cO], aI (.slice xl cN cl) M] := (hH.mores 1).addI 1 hwn4 o1 (Nat.le_refl _)
 clear hwn4
 have q0_0 := hH.cl 0 0 rfl rfl; have q0_1 := hH.cl 0 1 rfl rfl; have q0_2 := hH.cl 0 2 rfl rfl; have q0_3 := hH.cl 0 3 rfl rfl; have q0_4 := hH.cl 0 4 rfl rfl; have l0_ := hH.bl 0 rfl; have c_kr_0 := hH.ext.cell kr_0; have c_kr_1 := hH.ext.cell kr_1; have c_kr_2 := hH.ext.cell kr_2
 have c_kr_l := Nat.lt_of_lt_of_le kr_l hH.ext.size
 go_wp2_with fail
 clear q0_0 q0_1 q0_2 q0_3 q0_4 l0_ c_kr_0 c_kr_1 c_kr_2 c_kr_l
 refine (eliminationWidths_any HR.out HN.out _ _ _ (hT0.ext hH.ext) (hO.ext hH.ext) _ M (hH.ints (k := 1) rfl) (by rw [HCC.out]; exact HPM.out)).mono ?_; rintro ewn5 wn5 ⟨v2, rfl, o2, hwn5⟩
 rw [HLS.out] at o2
 obtain ⟨WM, hWM⟩ : ∃ q, widI LS M = q := ⟨_, rfl⟩
 have HWM := Lib.hid hWM
 have hwl : WM.length = cN := by rw [← hWM, widI_length, ← HPM.out.length_eq]; exact HCL.out
 rw [hWM] at o2
 obtain ⟨xw, cw, rfl⟩ := o2.shape1 cN hwl
 have HWL := Lib.hid hwl; clear hWM hwl
 replace hH : Held wN wn5 [aB (wN.heap.size) 29 [.int .i64 k, .int .i64 p, .int .i64 n, .slice aV m cV, .slice aO op.length cO], aI (.slice xl cN cl) M, aI (.slice xw cN cw) WM] := (hH.mores 1).addI 2 hwn5 o2 (Nat.le_refl _)
 clear hwn5
 have q0_0 := hH.cl 0 0 rfl rfl; have q0_1 := hH.cl 0 1 rfl rfl; have q0_2 := hH.cl 0 2 rfl rfl; have q0_3 := hH.cl 0 3 rfl rfl; have q0_4 := hH.cl 0 4 rfl rfl; have l0_ := hH.bl 0 rfl; have c_kr_0 := hH.ext.cell kr_0; have c_kr_1 := hH.ext.cell kr_1; have c_kr_2 := hH.ext.cell kr_2
 have c_kr_l := Nat.lt_of_lt_of_le kr_l hH.ext.size
 go_wp2_with fail
 clear q0_0 q0_1 q0_2 q0_3 q0_4 l0_ c_kr_0 c_kr_1 c_kr_2 c_kr_l
 refine (minDegreeOrder_any HR.out HN.out _ _ _ (hT0.ext hH.ext) (hO.ext hH.ext)).mono ?_; rintro ewn6 wn6 ⟨v3, G, rfl, o3, hpG, hwn6⟩
 rw [HCC.out] at hpG
 have HPG := Lib.hid hpG
 obtain ⟨xg, cg, rfl⟩ := o3.shape1 cN (by rw [← hpG.length_eq]; exact HCL.out)
 clear hpG
 replace hH : Held wN wn6 [aB (wN.heap.size) 29 [.int .i64 k, .int .i64 p, .int .i64 n, .slice aV m cV, .slice aO op.length cO], aI (.slice xl cN cl) M, aI (.slice xw cN cw) WM, aI (.slice xg cN cg) G] := (hH.mores 1).addI 3 hwn6 o3 (Nat.le_refl _)
 clear hwn6
 have q0_0 := hH.cl 0 0 rfl rfl; have q0_1 := hH.cl 0 1 rfl rfl; have q0_2 := hH.cl 0 2 rfl rfl; have q0_3 := hH.cl 0 3 rfl rfl; have q0_4 := hH.cl 0 4 rfl rfl; have l0_ := hH.bl 0 rfl; have c_kr_0 := hH.ext.cell kr_0; have c_kr_1 := hH.ext.cell kr_1; have c_kr_2 := hH.ext.cell kr_2
 have c_kr_l := Nat.lt_of_lt_of_le kr_l hH.ext.size
 go_wp2_with fail
 clear q0_0 q0_1 q0_2 q0_3 q0_4 l0_ c_kr_0 c_kr_1 c_kr_2 c_kr_l
 refine (eliminateLabels_any HR.out HN.out _ _ _ (hT0.ext hH.ext) (hO.ext hH.ext) _ G (hH.ints (k := 3) rfl) (by rw [HCC.out]; exact HPG.out)).mono ?_; rintro ewn7 wn7 ⟨vc, rfl, oc, hwn7⟩
 rw [HRX.out] at oc
 obtain ⟨tp1, tn1, tc1, tp2, tn2, tc2, tp3, tn3, tc3, rfl⟩ := oc.shape
 replace hH : Held wN wn7 [aB (wN.heap.size) 29 [.int .i64 k, .int .i64 p, .int .i64 n, .slice aV m cV, .slice aO op.length cO], aI (.slice xl cN cl) M, aI (.slice xw cN cw) WM, aI (.slice xg cN cg) G, aT (.agg #[.slice tp1 tn1 tc1, .slice tp2 tn2 tc2, .slice tp3 tn3 tc3]) op (op.map dimOf) (flat RX)] := (hH.mores 1).addT 4 hwn7 oc (Nat.le_refl _)
 clear hwn7
 have q0_0 := hH.cl 0 0 rfl rfl; have q0_1 := hH.cl 0 1 rfl rfl; have q0_2 := hH.cl 0 2 rfl rfl; have q0_3 := hH.cl 0 3 rfl rfl; have q0_4 := hH.cl 0 4 rfl rfl; have l0_ := hH.bl 0 rfl; have c_kr_0 := hH.ext.cell kr_0; have c_kr_1 := hH.ext.cell kr_1; have c_kr_2 := hH.ext.cell kr_2
 have c_kr_l := Nat.lt_of_lt_of_le kr_l hH.ext.size
 go_wp2_with fail
 clear q0_0 q0_1 q0_2 q0_3 q0_4 l0_ c_kr_0 c_kr_1 c_kr_2 c_kr_l
 have hB : Held wN (wn7.alloc (.cells #[.slice tp1 tn1 tc1, .slice tp2 tn2 tc2, .slice tp3 tn3 tc3] 32)) [aB (wN.heap.size) 29 [.int .i64 k, .int .i64 p, .int .i64 n, .slice aV m cV, .slice aO op.length cO], aI (.slice xl cN cl) M, aI (.slice xw cN cw) WM, aI (.slice xg cN cg) G, aT (.agg #[.slice tp1 tn1 tc1, .slice tp2 tn2 tc2, .slice tp3 tn3 tc3]) op (op.map dimOf) (flat RX), aB (wn7.heap.size) 32 [.slice tp1 tn1 tc1, .slice tp2 tn2 tc2, .slice tp3 tn3 tc3]] := by
  have h := (hH.mores 1).addB 5 #[.slice tp1 tn1 tc1, .slice tp2 tn2 tc2, .slice tp3 tn3 tc3] 32
  exact h
 have hsz : (wn7.alloc (.cells #[.slice tp1 tn1 tc1, .slice tp2 tn2 tc2, .slice tp3 tn3 tc3] 32)).heap.size = wn7.heap.size + 1 := by simp
 generalize wn7.alloc (.cells #[.slice tp1 tn1 tc1, .slice tp2 tn2 tc2, .slice tp3 tn3 tc3] 32) = wn8 at hB hsz ⊢
 replace hH := hB; have HSZwn8 := Lib.hid hsz; clear hB hsz
 obtain ⟨wy, rfl⟩ : ∃ q, q = wn8 := ⟨wn8, rfl⟩
 have q0_0 := hH.cl 0 0 rfl rfl; have q0_1 := hH.cl 0 1 rfl rfl; have q0_2 := hH.cl 0 2 rfl rfl; have q0_3 := hH.cl 0 3 rfl rfl; have q0_4 := hH.cl 0 4 rfl rfl; have l0_ := hH.bl 0 rfl; have q5_0 := hH.cl 5 0 rfl rfl; have q5_1 := hH.cl 5 1 rfl rfl; have q5_2 := hH.cl 5 2 rfl rfl; have l5_ := hH.bl 5 rfl; have c_kr_0 := hH.ext.cell kr_0; have c_kr_1 := hH.ext.cell kr_1; have c_kr_2 := hH.ext.cell kr_2
 have c_kr_l := Nat.lt_of_lt_of_le kr_l hH.ext.size
 go_wp2_with fail
 clear q0_0 q0_1 q0_2 q0_3 q0_4 l0_ q5_0 q5_1 q5_2 l5_ c_kr_0 c_kr_1 c_kr_2 c_kr_l
 refine (bestWidth_any HR.out HN.out _ _ _ (hT0.ext hH.ext) (hO.ext hH.ext) (by rw [HCC.out, HCL.out]; exact hc10)).mono ?_; rintro ewn9 wn9 ⟨T, rfl, ⟨iT, hTE⟩, hwn9⟩
 rw [HCC.out, HLS.out] at hTE
 rw [HCC.out, HCL.out]
 have HTE := Lib.hid hTE; clear hTE
 replace hH : Held wN wn9 [aB (wN.heap.size) 29 [.int .i64 k, .int .i64 p, .int .i64 n, .slice aV m cV, .slice aO op.length cO], aI (.slice xl cN cl) M, aI (.slice xw cN cw) WM, aI (.slice xg cN cg) G, aT (.agg #[.slice tp1 tn1 tc1, .slice tp2 tn2 tc2, .slice tp3 tn3 tc3]) op (op.map dimOf) (flat RX), aB (wn7.heap.size) 32 [.slice tp1 tn1 tc1, .slice tp2 tn2 tc2, .slice tp3 tn3 tc3]] := hH.grow hwn9
 clear hwn9
 obtain ⟨zb, hzb⟩ : ∃ q, tabL T (2 ^ cN - 1) = q := ⟨_, rfl⟩
 have HZ0 : Hid (cN = 0 → zb = 0) := Lib.hid fun h => by rw [← hzb, h]; exact HTE.out.zero
 have HZ1 : Hid (0 < cN → 1 ≤ zb) := Lib.hid fun h => by
  rw [← hzb]
  have h1 : 2 ^ 1 ≤ 2 ^ cN := Nat.pow_le_pow_right (by decide) h
  exact HTE.out.pos _ (by omega) (by rw [HCL.out]; omega)
 have HZG : Hid (zb ≤ maxW LS G) := Lib.hid (by
  have h := HTE.out
  have e := HCL.out
  subst e
  rw [← hzb]; exact h.best HCN.out HPG.out.symm)
 have HZM : Hid (zb ≤ maxW LS M) := Lib.hid (by
  have h := HTE.out
  have e := HCL.out
  subst e
  rw [← hzb]; exact h.best HCN.out HPM.out.symm)
 rw [hzb]
 clear hzb HTE
 obtain ⟨wx1, rfl⟩ : ∃ q, q = wn9 := ⟨wn9, rfl⟩
 have q0_0 := hH.cl 0 0 rfl rfl; have q0_1 := hH.cl 0 1 rfl rfl; have q0_2 := hH.cl 0 2 rfl rfl; have q0_3 := hH.cl 0 3 rfl rfl; have q0_4 := hH.cl 0 4 rfl rfl; have l0_ := hH.bl 0 rfl; have q5_0 := hH.cl 5 0 rfl rfl; have q5_1 := hH.cl 5 1 rfl rfl; have q5_2 := hH.cl 5 2 rfl rfl; have l5_ := hH.bl 5 rfl; have c_kr_0 := hH.ext.cell kr_0; have c_kr_1 := hH.ext.cell kr_1; have c_kr_2 := hH.ext.cell kr_2
 have c_kr_l := Nat.lt_of_lt_of_le kr_l hH.ext.size
 go_upto_region 10 with fail
 clear q0_0 q0_1 q0_2 q0_3 q0_4 l0_ q5_0 q5_1 q5_2 l5_ c_kr_0 c_kr_1 c_kr_2 c_kr_l
 replace hH := hH.mores 1
 replace hH : Held wN wx1 [aB (wN.heap.size) 29 [.int .i64 k, .int .i64 p, .int .i64 n, .slice aV m cV, .slice aO op.length cO], aI (.slice xl cN cl) M, aI (.slice xw cN cw) WM, aI (.slice xg cN cg) G, aT (.agg #[.slice tp1 tn1 tc1, .slice tp2 tn2 tc2, .slice tp3 tn3 tc3]) op (op.map dimOf) (flat RX), aB (wn7.heap.size) 32 [.slice tp1 tn1 tc1, .slice tp2 tn2 tc2, .slice tp3 tn3 tc3], emp] := hH
 refine wp_region_steps ?Fe (fun b t wx => Held wN wx [aB (wN.heap.size) 29 [.int .i64 k, .int .i64 p, .int .i64 n, .slice aV m cV, .slice aO op.length cO], aI (.slice xl cN cl) M, aI (.slice xw cN cw) WM, aI (.slice xg cN cg) G, aT (.agg #[.slice tp1 tn1 tc1, .slice tp2 tn2 tc2, .slice tp3 tn3 tc3]) op (op.map dimOf) (flat RX), aB (wn7.heap.size) 32 [.slice tp1 tn1 tc1, .slice tp2 tn2 tc2, .slice tp3 tn3 tc3], (bif b 5 then aT (t 5) op (op.map dimOf) (flat RX) else emp)] ∧ (b 0 = true → t 0 = .bool true) ∧ (b 1 = true → t 1 = .bool false) ∧ (b 2 = true → t 2 = .bool false) ∧ (b 3 = true → t 3 = .agg #[.slice tp1 tn1 tc1, .slice tp2 tn2 tc2, .slice tp3 tn3 tc3]) ∧ (b 4 = true → t 4 = .agg #[.int .i64 k, .int .i64 p, .int .i64 n, .slice aV m cV, .slice aO op.length cO]) ∧ (b 5 = true → ∃ p1 n1 c1 p2 n2 c2 p3 n3 c3, t 5 = .agg #[.slice p1 n1 c1, .slice p2 n2 c2, .slice p3 n3 c3]) ∧ (b 6 = true → t 6 = .bool true) ∧ (b 7 = true → t 7 = .bool false) ∧ (b 8 = true → t 8 = .bool false) ∧ (b 9 = true → t 9 = .bool false) ∧ (b 10 = true → t 10 = .agg #[.int .i64 k, .int .i64 p, .int .i64 n, .slice aV m cV, .slice aO op.length cO]) ∧ (b 11 = true → t 11 = .slice xl cN cl) ∧ (b 12 = true → t 12 = .bool true) ∧ (b 13 = true → t 13 = .bool false) ∧ (b 14 = true → t 14 = .bool false) ∧ (b 15 = true → t 15 = .bool false) ∧ (b 16 = true → t 16 = .agg #[.int .i64 k, .int .i64 p, .int .i64 n, .slice aV m cV, .slice aO op.length cO]) ∧ (b 17 = true → t 17 = .slice xg cN cg) ∧ (b 18 = true → t 18 = .bool true) ∧ (b 19 = true → t 19 = .bool false) ∧ (b 20 = true → t 20 = .bool false) ∧ (b 21 = true → t 21 = .bool false) ∧ (b 22 = true → t 22 = .slice xw cN cw) ∧ (b 23 = true → t 23 = .int .i64 (cN : Int)) ∧ (b 24 = true → t 24 = .slice xl cN cl) ∧ (b 25 = true → t 25 = .int .i64 (cN : Int)) ∧ (b 26 = true → t 26 = .bool false) ∧ (b 27 = true → t 27 = .bool false) ∧ (b 28 = true → t 28 = .bool false) ∧ (b 29 = true → t 29 = .slice xl cN cl) ∧ (b 30 = true → t 30 = .int .i64 (cN : Int)) ∧ (b 31 = true → t 31 = .agg #[.int .i64 k, .int .i64 p, .int .i64 n, .slice aV m cV, .slice aO op.length cO]) ∧ (b 32 = true → ∃ y c, t 32 = .slice y cN c) ∧ (b 33 = true → t 33 = .int .i64 (cN : Int)) ∧ (b 34 = true → t 34 = .bool false) ∧ (b 35 = true → t 35 = .bool false)) ?hFe (by kernel_rfl) (by kernel_rfl) ?hJe ?hSe ?hEe
 (case hFe => intro t; simp only [putAll, Act.put, List.setIfInBounds_toArray, List.set_cons_zero, List.set_cons_succ, Nat.reduceAdd, Nat.zero_add]; exact rfl)
 case hJe => exact ⟨hH.grow ((Ext.refl _).drew), fun h => absurd h Bool.false_ne_true, fun h => absurd h Bool.false_ne_true, fun h => absurd h Bool.false_ne_true, fun h => absurd h Bool.false_ne_true, fun h => absurd h Bool.false_ne_true, fun h => absurd h Bool.false_ne_true, fun h => absurd h Bool.false_ne_true, fun h => absurd h Bool.false_ne_true, fun h => absurd h Bool.false_ne_true, fun h => absurd h Bool.false_ne_true, fun h => absurd h Bool.false_ne_true, fun h => absurd h Bool.false_ne_true, fun h => absurd h Bool.false_ne_true, fun h => absurd h Bool.false_ne_true, fun h => absurd h Bool.false_ne_true, fun h => absurd h Bool.false_ne_true, fun h => absurd h Bool.false_ne_true, fun h => absurd h Bool.false_ne_true, fun h => absurd h Bool.false_ne_true, fun h => absurd h Bool.false_ne_true, fun h => absurd h Bool.false_ne_true, fun h => absurd h Bool.false_ne_true, fun h => absurd h Bool.false_ne_true, fun h => absurd h Bool.false_ne_true, fun h => absurd h Bool.false_ne_true, fun h => absurd h Bool.false_ne_true, fun h => absurd h Bool.false_ne_true, fun h => absurd h Bool.false_ne_true, fun h => absurd h Bool.false_ne_true, fun h => absurd h Bool.false_ne_true, fun h => absurd h Bool.false_ne_true, fun h => absurd h Bool.false_ne_true, fun h => absurd h Bool.false_ne_true, fun h => absurd h Bool.false_ne_true, fun h => absurd h Bool.false_ne_true, fun h => absurd h Bool.false_ne_true⟩
 case hSe => as_aux_lemma =>
   refine AllSteps.cons (j := 1) rfl (fun b t wx hJ hb hd hcl Kc hK => ?_) ?_
   · obtain ⟨hH, v0, v1, v2, v3, v4, v5, v6, v7, v8, v9, v10, v11, v12, v13, v14, v15, v16, v17, v18, v19, v20, v21, v22, v23, v24, v25, v26, v27, v28, v29, v30, v31, v32, v33, v34, v35⟩ := hJ
     go_simp
     refine hK.out _ ?_ _ ?_ ?_; rotate_left 2
     · rfl
     exact ⟨hH, fun _ => rfl, v1, v2, v3, v4, v5, v6, v7, v8, v9, v10, v11, v12, v13, v14, v15, v16, v17, v18, v19, v20, v21, v22, v23, v24, v25, v26, v27, v28, v29, v30, v31, v32, v33, v34, v35⟩
   refine AllSteps.cons (j := 2) rfl (fun b t wx hJ hb hd hcl Kc hK => ?_) ?_
   · obtain ⟨hH, v0, v1, v2, v3, v4, v5, v6, v7, v8, v9, v10, v11, v12, v13, v14, v15, v16, v17, v18, v19, v20, v21, v22, v23, v24, v25, v26, v27, v28, v29, v30, v31, v32, v33, v34, v35⟩ := hJ
     have d0 := hd.out 0 (by kernel_rfl); have r0 := v0 d0
     go_simp
     refine hK.out _ ?_ _ ?_ ?_; rotate_left 2
     · (try simp only [r0]); rfl
     exact ⟨hH, v0, fun _ => rfl, v2, v3, v4, v5, v6, v7, v8, v9, v10, v11, v12, v13, v14, v15, v16, v17, v18, v19, v20, v21, v22, v23, v24, v25, v26, v27, v28, v29, v30, v31, v32, v33, v34, v35⟩
   refine AllSteps.cons (j := 3) rfl (fun b t wx hJ hb hd hcl Kc hK => ?_) ?_
   · obtain ⟨hH, v0, v1, v2, v3, v4, v5, v6, v7, v8, v9, v10, v11, v12, v13, v14, v15, v16, v17, v18, v19, v20, v21, v22, v23, v24, v25, v26, v27, v28, v29, v30, v31, v32, v33, v34, v35⟩ := hJ
     have d1 := hd.out 1 (by kernel_rfl); have r1 := v1 d1
     go_simp
     refine hK.out _ ?_ _ ?_ ?_; rotate_left 2
     · (try simp only [r1]); rfl
     exact ⟨hH, v0, v1, fun _ => rfl, v3, v4, v5, v6, v7, v8, v9, v10, v11, v12, v13, v14, v15, v16, v17, v18, v19, v20, v21, v22, v23, v24, v25, v26, v27, v28, v29, v30, v31, v32, v33, v34, v35⟩
   refine AllSteps.cons (j := 4) rfl (fun b t wx hJ hb hd hcl Kc hK => ?_) ?_
   · obtain ⟨hH, v0, v1, v2, v3, v4, v5, v6, v7, v8, v9, v10, v11, v12, v13, v14, v15, v16, v17, v18, v19, v20, v21, v22, v23, v24, v25, v26, v27, v28, v29, v30, v31, v32, v33, v34, v35⟩ := hJ
     have d2 := hd.out 2 (by kernel_rfl); have r2 := v2 d2; have q5_0 := hH.cl 5 0 rfl rfl; have q5_1 := hH.cl 5 1 rfl rfl; have q5_2 := hH.cl 5 2 rfl rfl
     go_simp
     refine hK.out _ ?_ _ ?_ ?_; rotate_left 2
     · (try simp only [r2]); rfl
     exact ⟨hH, v0, v1, v2, fun _ => rfl, v4, v5, v6, v7, v8, v9, v10, v11, v12, v13, v14, v15, v16, v17, v18, v19, v20, v21, v22, v23, v24, v25, v26, v27, v28, v29, v30, v31, v32, v33, v34, v35⟩
   refine AllSteps.cons (j := 5) rfl (fun b t wx hJ hb hd hcl Kc hK => ?_) ?_
   · obtain ⟨hH, v0, v1, v2, v3, v4, v5, v6, v7, v8, v9, v10, v11, v12, v13, v14, v15, v16, v17, v18, v19, v20, v21, v22, v23, v24, v25, v26, v27, v28, v29, v30, v31, v32, v33, v34, v35⟩ := hJ
     have d2 := hd.out 2 (by kernel_rfl); have r2 := v2 d2; have q0_0 := hH.cl 0 0 rfl rfl; have q0_1 := hH.cl 0 1 rfl rfl; have q0_2 := hH.cl 0 2 rfl rfl; have q0_3 := hH.cl 0 3 rfl rfl; have q0_4 := hH.cl 0 4 rfl rfl
     go_simp
     refine hK.out _ ?_ _ ?_ ?_; rotate_left 2
     · (try simp only [r2]); rfl
     exact ⟨hH, v0, v1, v2, v3, fun _ => rfl, v5, v6, v7, v8, v9, v10, v11, v12, v13, v14, v15, v16, v17, v18, v19, v20, v21, v22, v23, v24, v25, v26, v27, v28, v29, v30, v31, v32, v33, v34, v35⟩
   refine AllSteps.cons (j := 6) rfl (fun b t wx hJ hb hd hcl Kc hK => ?_) ?_
   · obtain ⟨hH, v0, v1, v2, v3, v4, v5, v6, v7, v8, v9, v10, v11, v12, v13, v14, v15, v16, v17, v18, v19, v20, v21, v22, v23, v24, v25, v26, v27, v28, v29, v30, v31, v32, v33, v34, v35⟩ := hJ
     have d2 := hd.out 2 (by kernel_rfl); have d4 := hd.out 4 (by kernel_rfl); have r2 := v2 d2; have r4 := v4 d4
     have hN := hH; (try simp only [hb, d2, d4, cond_true, cond_false] at hN)
     go_simp
     go_at_call 37
     refine (worth_any HR.out HN.out _ _ _ (hT0.ext hH.ext) (hO.ext hH.ext)).mono ?_; rintro e5 w5 ⟨u12, rfl, o12, h12⟩
     rw [HRX.out] at o12
     obtain ⟨pa1, na1, ca1, pa2, na2, ca2, pa3, na3, ca3, rfl⟩ := o12.shape
     (try go_simp)
     refine hK.out _ ?_ _ ?_ ?_; rotate_left 2
     · (try simp only [r2, r4]); rfl
     exact ⟨by have hX := hN.addT 6 h12 o12 (Nat.le_refl _); simpa only [List.set_cons_zero, List.set_cons_succ, updB, updV, blkOf_mk, tup0_mk, partsOf3, Nat.reduceBEq, cond_true, cond_false, hb, d2, d4, r2, r4] using hX, v0, v1, v2, v3, v4, fun _ => ⟨_, _, _, _, _, _, _, _, _, rfl⟩, v6, v7, v8, v9, v10, v11, v12, v13, v14, v15, v16, v17, v18, v19, v20, v21, v22, v23, v24, v25, v26, v27, v28, v29, v30, v31, v32, v33, v34, v35⟩
   refine AllSteps.cons (j := 7) rfl (fun b t wx hJ hb hd hcl Kc hK => ?_) ?_
   · obtain ⟨hH, v0, v1, v2, v3, v4, v5, v6, v7, v8, v9, v10, v11, v12, v13, v14, v15, v16, v17, v18, v19, v20, v21, v22, v23, v24, v25, v26, v27, v28, v29, v30, v31, v32, v33, v34, v35⟩ := hJ
     have d2 := hd.out 2 (by kernel_rfl); have d3 := hd.out 3 (by kernel_rfl); have d5 := hd.out 5 (by kernel_rfl); have r2 := v2 d2; have r3 := v3 d3; have r5 := v5 d5
     obtain ⟨p1_5, n1_5, c1_5, p2_5, n2_5, c2_5, p3_5, n3_5, c3_5, r5⟩ := r5
     have hN := hH; (try simp only [hb, d2, d3, d5, cond_true, cond_false] at hN)
     go_simp
     go_at_call 38
     refine (same_same _ _ _ _ _ _ _ _ _ (hH.tens (k := 4) rfl) (by have h := hN.tens (k := 6) rfl; rw [r5] at h; exact h) rfl rfl rfl).mono ?_; rintro e6 w6 ⟨rfl, h13⟩
     (try go_simp)
     refine hK.out _ ?_ _ ?_ ?_; rotate_left 2
     · (try simp only [r2, r3, r5]); rfl
     exact ⟨by have hX := hH.grow h13; simpa only [List.set_cons_zero, List.set_cons_succ, updB, updV, blkOf_mk, tup0_mk, partsOf3, Nat.reduceBEq, cond_true, cond_false, hb, d2, d3, d5, r2, r3, r5] using hX, v0, v1, v2, v3, v4, v5, fun _ => rfl, v7, v8, v9, v10, v11, v12, v13, v14, v15, v16, v17, v18, v19, v20, v21, v22, v23, v24, v25, v26, v27, v28, v29, v30, v31, v32, v33, v34, v35⟩
   refine AllSteps.cons (j := 8) rfl (fun b t wx hJ hb hd hcl Kc hK => ?_) ?_
   · obtain ⟨hH, v0, v1, v2, v3, v4, v5, v6, v7, v8, v9, v10, v11, v12, v13, v14, v15, v16, v17, v18, v19, v20, v21, v22, v23, v24, v25, v26, v27, v28, v29, v30, v31, v32, v33, v34, v35⟩ := hJ
     have d2 := hd.out 2 (by kernel_rfl); have d6 := hd.out 6 (by kernel_rfl); have r2 := v2 d2; have r6 := v6 d6
     go_simp
     refine hK.out _ ?_ _ ?_ ?_; rotate_left 2
     · (try simp only [r2, r6]); rfl
     exact ⟨hH, v0, v1, v2, v3, v4, v5, v6, fun _ => rfl, v8, v9, v10, v11, v12, v13, v14, v15, v16, v17, v18, v19, v20, v21, v22, v23, v24, v25, v26, v27, v28, v29, v30, v31, v32, v33, v34, v35⟩
   refine AllSteps.cons (j := 9) rfl (fun b t wx hJ hb hd hcl Kc hK => ?_) ?_
   · obtain ⟨hH, v0, v1, v2, v3, v4, v5, v6, v7, v8, v9, v10, v11, v12, v13, v14, v15, v16, v17, v18, v19, v20, v21, v22, v23, v24, v25, v26, v27, v28, v29, v30, v31, v32, v33, v34, v35⟩ := hJ
     have d2 := hd.out 2 (by kernel_rfl); have d7 := hd.out 7 (by kernel_rfl); have r2 := v2 d2; have r7 := v7 d7
     go_simp
     refine hK.out _ ?_ _ ?_ ?_; rotate_left 2
     · (try simp only [r2, r7]); rfl
     exact ⟨hH, v0, v1, v2, v3, v4, v5, v6, v7, fun _ => rfl, v9, v10, v11, v12, v13, v14, v15, v16, v17, v18, v19, v20, v21, v22, v23, v24, v25, v26, v27, v28, v29, v30, v31, v32, v33, v34, v35⟩
   refine AllSteps.cons (j := 10) rfl (fun b t wx hJ hb hd hcl Kc hK => ?_) ?_
   · obtain ⟨hH, v0, v1, v2, v3, v4, v5, v6, v7, v8, v9, v10, v11, v12, v13, v14, v15, v16, v17, v18, v19, v20, v21, v22, v23, v24, v25, v26, v27, v28, v29, v30, v31, v32, v33, v34, v35⟩ := hJ
     have d6 := hd.out 6 (by kernel_rfl); have d8 := hd.out 8 (by kernel_rfl); have r6 := v6 d6; have r8 := v8 d8
     go_simp
     refine hK.out _ ?_ _ ?_ ?_; rotate_left 2
     · (try simp only [r6, r8]); rfl
     exact ⟨hH, v0, v1, v2, v3, v4, v5, v6, v7, v8, fun _ => rfl, v10, v11, v12, v13, v14, v15, v16, v17, v18, v19, v20, v21, v22, v23, v24, v25, v26, v27, v28, v29, v30, v31, v32, v33, v34, v35⟩
   refine AllSteps.cons (j := 11) rfl (fun b t wx hJ hb hd hcl Kc hK => ?_) ?_
   · obtain ⟨hH, v0, v1, v2, v3, v4, v5, v6, v7, v8, v9, v10, v11, v12, v13, v14, v15, v16, v17, v18, v19, v20, v21, v22, v23, v24, v25, v26, v27, v28, v29, v30, v31, v32, v33, v34, v35⟩ := hJ
     have d9 := hd.out 9 (by kernel_rfl); have r9 := v9 d9; have q0_0 := hH.cl 0 0 rfl rfl; have q0_1 := hH.cl 0 1 rfl rfl; have q0_2 := hH.cl 0 2 rfl rfl; have q0_3 := hH.cl 0 3 rfl rfl; have q0_4 := hH.cl 0 4 rfl rfl
     go_simp
     refine hK.out _ ?_ _ ?_ ?_; rotate_left 2
     · (try simp only [r9]); rfl
     exact ⟨hH, v0, v1, v2, v3, v4, v5, v6, v7, v8, v9, fun _ => rfl, v11, v12, v13, v14, v15, v16, v17, v18, v19, v20, v21, v22, v23, v24, v25, v26, v27, v28, v29, v30, v31, v32, v33, v34, v35⟩
   refine AllSteps.cons (j := 12) rfl (fun b t wx hJ hb hd hcl Kc hK => ?_) ?_
   · obtain ⟨hH, v0, v1, v2, v3, v4, v5, v6, v7, v8, v9, v10, v11, v12, v13, v14, v15, v16, v17, v18, v19, v20, v21, v22, v23, v24, v25, v26, v27, v28, v29, v30, v31, v32, v33, v34, v35⟩ := hJ
     have d9 := hd.out 9 (by kernel_rfl); have r9 := v9 d9
     go_simp
     refine hK.out _ ?_ _ ?_ ?_; rotate_left 2
     · (try simp only [r9]); rfl
     exact ⟨hH, v0, v1, v2, v3, v4, v5, v6, v7, v8, v9, v10, fun _ => rfl, v12, v13, v14, v15, v16, v17, v18, v19, v20, v21, v22, v23, v24, v25, v26, v27, v28, v29, v30, v31, v32, v33, v34, v35⟩
   refine AllSteps.cons (j := 13) rfl (fun b t wx hJ hb hd hcl Kc hK => ?_) ?_
   · obtain ⟨hH, v0, v1, v2, v3, v4, v5, v6, v7, v8, v9, v10, v11, v12, v13, v14, v15, v16, v17, v18, v19, v20, v21, v22, v23, v24, v25, v26, v27, v28, v29, v30, v31, v32, v33, v34, v35⟩ := hJ
     have d9 := hd.out 9 (by kernel_rfl); have d10 := hd.out 10 (by kernel_rfl); have d11 := hd.out 11 (by kernel_rfl); have r9 := v9 d9; have r10 := v10 d10; have r11 := v11 d11
     go_simp
     go_at_call 81
     refine (eliminationOk_any HR.out HN.out _ _ _ (hT0.ext hH.ext) (hO.ext hH.ext) _ M (hH.ints (k := 1) rfl) (by rw [HCC.out]; exact HPM.out)).mono ?_; rintro e12 w12 ⟨rfl, h14⟩
     (try go_simp)
     refine hK.out _ ?_ _ ?_ ?_; rotate_left 2
     · (try simp only [r9, r10, r11]); rfl
     exact ⟨by have hX := hH.grow h14; simpa only [List.set_cons_zero, List.set_cons_succ, updB, updV, blkOf_mk, tup0_mk, partsOf3, Nat.reduceBEq, cond_true, cond_false, hb, d9, d10, d11, r9, r10, r11] using hX, v0, v1, v2, v3, v4, v5, v6, v7, v8, v9, v10, v11, fun _ => rfl, v13, v14, v15, v16, v17, v18, v19, v20, v21, v22, v23, v24, v25, v26, v27, v28, v29, v30, v31, v32, v33, v34, v35⟩
   refine AllSteps.cons (j := 14) rfl (fun b t wx hJ hb hd hcl Kc hK => ?_) ?_
   · obtain ⟨hH, v0, v1, v2, v3, v4, v5, v6, v7, v8, v9, v10, v11, v12, v13, v14, v15, v16, v17, v18, v19, v20, v21, v22, v23, v24, v25, v26, v27, v28, v29, v30, v31, v32, v33, v34, v35⟩ := hJ
     have d9 := hd.out 9 (by kernel_rfl); have d12 := hd.out 12 (by kernel_rfl); have r9 := v9 d9; have r12 := v12 d12
     go_simp
     refine hK.out _ ?_ _ ?_ ?_; rotate_left 2
     · (try simp only [r9, r12]); rfl
     exact ⟨hH, v0, v1, v2, v3, v4, v5, v6, v7, v8, v9, v10, v11, v12, fun _ => rfl, v14, v15, v16, v17, v18, v19, v20, v21, v22, v23, v24, v25, v26, v27, v28, v29, v30, v31, v32, v33, v34, v35⟩
   refine AllSteps.cons (j := 15) rfl (fun b t wx hJ hb hd hcl Kc hK => ?_) ?_
   · obtain ⟨hH, v0, v1, v2, v3, v4, v5, v6, v7, v8, v9, v10, v11, v12, v13, v14, v15, v16, v17, v18, v19, v20, v21, v22, v23, v24, v25, v26, v27, v28, v29, v30, v31, v32, v33, v34, v35⟩ := hJ
     have d9 := hd.out 9 (by kernel_rfl); have d13 := hd.out 13 (by kernel_rfl); have r9 := v9 d9; have r13 := v13 d13
     go_simp
     refine hK.out _ ?_ _ ?_ ?_; rotate_left 2
     · (try simp only [r9, r13]); rfl
     exact ⟨hH, v0, v1, v2, v3, v4, v5, v6, v7, v8, v9, v10, v11, v12, v13, fun _ => rfl, v15, v16, v17, v18, v19, v20, v21, v22, v23, v24, v25, v26, v27, v28, v29, v30, v31, v32, v33, v34, v35⟩
   refine AllSteps.cons (j := 16) rfl (fun b t wx hJ hb hd hcl Kc hK => ?_) ?_
   · obtain ⟨hH, v0, v1, v2, v3, v4, v5, v6, v7, v8, v9, v10, v11, v12, v13, v14, v15, v16, v17, v18, v19, v20, v21, v22, v23, v24, v25, v26, v27, v28, v29, v30, v31, v32, v33, v34, v35⟩ := hJ
     have d12 := hd.out 12 (by kernel_rfl); have d14 := hd.out 14 (by kernel_rfl); have r12 := v12 d12; have r14 := v14 d14
     go_simp
     refine hK.out _ ?_ _ ?_ ?_; rotate_left 2
     · (try simp only [r12, r14]); rfl
     exact ⟨hH, v0, v1, v2, v3, v4, v5, v6, v7, v8, v9, v10, v11, v12, v13, v14, fun _ => rfl, v16, v17, v18, v19, v20, v21, v22, v23, v24, v25, v26, v27, v28, v29, v30, v31, v32, v33, v34, v35⟩
   refine AllSteps.cons (j := 17) rfl (fun b t wx hJ hb hd hcl Kc hK => ?_) ?_
   · obtain ⟨hH, v0, v1, v2, v3, v4, v5, v6, v7, v8, v9, v10, v11, v12, v13, v14, v15, v16, v17, v18, v19, v20, v21, v22, v23, v24, v25, v26, v27, v28, v29, v30, v31, v32, v33, v34, v35⟩ := hJ
     have d15 := hd.out 15 (by kernel_rfl); have r15 := v15 d15; have q0_0 := hH.cl 0 0 rfl rfl; have q0_1 := hH.cl 0 1 rfl rfl; have q0_2 := hH.cl 0 2 rfl rfl; have q0_3 := hH.cl 0 3 rfl rfl; have q0_4 := hH.cl 0 4 rfl rfl
     go_simp
     refine hK.out _ ?_ _ ?_ ?_; rotate_left 2
     · (try simp only [r15]); rfl
     exact ⟨hH, v0, v1, v2, v3, v4, v5, v6, v7, v8, v9, v10, v11, v12, v13, v14, v15, fun _ => rfl, v17, v18, v19, v20, v21, v22, v23, v24, v25, v26, v27, v28, v29, v30, v31, v32, v33, v34, v35⟩
   refine AllSteps.cons (j := 18) rfl (fun b t wx hJ hb hd hcl Kc hK => ?_) ?_
   · obtain ⟨hH, v0, v1, v2, v3, v4, v5, v6, v7, v8, v9, v10, v11, v12, v13, v14, v15, v16, v17, v18, v19, v20, v21, v22, v23, v24, v25, v26, v27, v28, v29, v30, v31, v32, v33, v34, v35⟩ := hJ
     have d15 := hd.out 15 (by kernel_rfl); have r15 := v15 d15
     go_simp
     refine hK.out _ ?_ _ ?_ ?_; rotate_left 2
     · (try simp only [r15]); rfl
     exact ⟨hH, v0, v1, v2, v3, v4, v5, v6, v7, v8, v9, v10, v11, v12, v13, v14, v15, v16, fun _ => rfl, v18, v19, v20, v21, v22, v23, v24, v25, v26, v27, v28, v29, v30, v31, v32, v33, v34, v35⟩
   refine AllSteps.cons (j := 19) rfl (fun b t wx hJ hb hd hcl Kc hK => ?_) ?_
   · obtain ⟨hH, v0, v1, v2, v3, v4, v5, v6, v7, v8, v9, v10, v11, v12, v13, v14, v15, v16, v17, v18, v19, v20, v21, v22, v23, v24, v25, v26, v27, v28, v29, v30, v31, v32, v33, v34, v35⟩ := hJ
     have d15 := hd.out 15 (by kernel_rfl); have d16 := hd.out 16 (by kernel_rfl); have d17 := hd.out 17 (by kernel_rfl); have r15 := v15 d15; have r16 := v16 d16; have r17 := v17 d17
     go_simp
     go_at_call 81
     refine (eliminationOk_any HR.out HN.out _ _ _ (hT0.ext hH.ext) (hO.ext hH.ext) _ G (hH.ints (k := 3) rfl) (by rw [HCC.out]; exact HPG.out)).mono ?_; rintro e18 w18 ⟨rfl, h15⟩
     (try go_simp)
     refine hK.out _ ?_ _ ?_ ?_; rotate_left 2
     · (try simp only [r15, r16, r17]); rfl
     exact ⟨by have hX := hH.grow h15; simpa only [List.set_cons_zero, List.set_cons_succ, updB, updV, blkOf_mk, tup0_mk, partsOf3, Nat.reduceBEq, cond_true, cond_false, hb, d15, d16, d17, r15, r16, r17] using hX, v0, v1, v2, v3, v4, v5, v6, v7, v8, v9, v10, v11, v12, v13, v14, v15, v16, v17, fun _ => rfl, v19, v20, v21, v22, v23, v24, v25, v26, v27, v28, v29, v30, v31, v32, v33, v34, v35⟩
   refine AllSteps.cons (j := 20) rfl (fun b t wx hJ hb hd hcl Kc hK => ?_) ?_
   · obtain ⟨hH, v0, v1, v2, v3, v4, v5, v6, v7, v8, v9, v10, v11, v12, v13, v14, v15, v16, v17, v18, v19, v20, v21, v22, v23, v24, v25, v26, v27, v28, v29, v30, v31, v32, v33, v34, v35⟩ := hJ
     have d15 := hd.out 15 (by kernel_rfl); have d18 := hd.out 18 (by kernel_rfl); have r15 := v15 d15; have r18 := v18 d18
     go_simp
     refine hK.out _ ?_ _ ?_ ?_; rotate_left 2
     · (try simp only [r15, r18]); rfl
     exact ⟨hH, v0, v1, v2, v3, v4, v5, v6, v7, v8, v9, v10, v11, v12, v13, v14, v15, v16, v17, v18, fun _ => rfl, v20, v21, v22, v23, v24, v25, v26, v27, v28, v29, v30, v31, v32, v33, v34, v35⟩
   refine AllSteps.cons (j := 21) rfl (fun b t wx hJ hb hd hcl Kc hK => ?_) ?_
   · obtain ⟨hH, v0, v1, v2, v3, v4, v5, v6, v7, v8, v9, v10, v11, v12, v13, v14, v15, v16, v17, v18, v19, v20, v21, v22, v23, v24, v25, v26, v27, v28, v29, v30, v31, v32, v33, v34, v35⟩ := hJ
     have d15 := hd.out 15 (by kernel_rfl); have d19 := hd.out 19 (by kernel_rfl); have r15 := v15 d15; have r19 := v19 d19
     go_simp
     refine hK.out _ ?_ _ ?_ ?_; rotate_left 2
     · (try simp only [r15, r19]); rfl
     exact ⟨hH, v0, v1, v2, v3, v4, v5, v6, v7, v8, v9, v10, v11, v12, v13, v14, v15, v16, v17, v18, v19, fun _ => rfl, v21, v22, v23, v24, v25, v26, v27, v28, v29, v30, v31, v32, v33, v34, v35⟩
   refine AllSteps.cons (j := 22) rfl (fun b t wx hJ hb hd hcl Kc hK => ?_) ?_
   · obtain ⟨hH, v0, v1, v2, v3, v4, v5, v6, v7, v8, v9, v10, v11, v12, v13, v14, v15, v16, v17, v18, v19, v20, v21, v22, v23, v24, v25, v26, v27, v28, v29, v30, v31, v32, v33, v34, v35⟩ := hJ
     have d18 := hd.out 18 (by kernel_rfl); have d20 := hd.out 20 (by kernel_rfl); have r18 := v18 d18; have r20 := v20 d20
     go_simp
     refine hK.out _ ?_ _ ?_ ?_; rotate_left 2
     · (try simp only [r18, r20]); rfl
     exact ⟨hH, v0, v1, v2, v3, v4, v5, v6, v7, v8, v9, v10, v11, v12, v13, v14, v15, v16, v17, v18, v19, v20, fun _ => rfl, v22, v23, v24, v25, v26, v27, v28, v29, v30, v31, v32, v33, v34, v35⟩
   refine AllSteps.cons (j := 23) rfl (fun b t wx hJ hb hd hcl Kc hK => ?_) ?_
   · obtain ⟨hH, v0, v1, v2, v3, v4, v5, v6, v7, v8, v9, v10, v11, v12, v13, v14, v15, v16, v17, v18, v19, v20, v21, v22, v23, v24, v25, v26, v27, v28, v29, v30, v31, v32, v33, v34, v35⟩ := hJ
     have d21 := hd.out 21 (by kernel_rfl); have r21 := v21 d21
     go_simp
     refine hK.out _ ?_ _ ?_ ?_; rotate_left 2
     · (try simp only [r21]); rfl
     exact ⟨hH, v0, v1, v2, v3, v4, v5, v6, v7, v8, v9, v10, v11, v12, v13, v14, v15, v16, v17, v18, v19, v20, v21, fun _ => rfl, v23, v24, v25, v26, v27, v28, v29, v30, v31, v32, v33, v34, v35⟩
   refine AllSteps.cons (j := 24) rfl (fun b t wx hJ hb hd hcl Kc hK => ?_) ?_
   · obtain ⟨hH, v0, v1, v2, v3, v4, v5, v6, v7, v8, v9, v10, v11, v12, v13, v14, v15, v16, v17, v18, v19, v20, v21, v22, v23, v24, v25, v26, v27, v28, v29, v30, v31, v32, v33, v34, v35⟩ := hJ
     have d21 := hd.out 21 (by kernel_rfl); have d22 := hd.out 22 (by kernel_rfl); have r21 := v21 d21; have r22 := v22 d22
     go_simp
     refine hK.out _ ?_ _ ?_ ?_; rotate_left 2
     · (try simp only [r21, r22]); rfl
     exact ⟨hH, v0, v1, v2, v3, v4, v5, v6, v7, v8, v9, v10, v11, v12, v13, v14, v15, v16, v17, v18, v19, v20, v21, v22, fun _ => rfl, v24, v25, v26, v27, v28, v29, v30, v31, v32, v33, v34, v35⟩
   refine AllSteps.cons (j := 25) rfl (fun b t wx hJ hb hd hcl Kc hK => ?_) ?_
   · obtain ⟨hH, v0, v1, v2, v3, v4, v5, v6, v7, v8, v9, v10, v11, v12, v13, v14, v15, v16, v17, v18, v19, v20, v21, v22, v23, v24, v25, v26, v27, v28, v29, v30, v31, v32, v33, v34, v35⟩ := hJ
     have d21 := hd.out 21 (by kernel_rfl); have r21 := v21 d21
     go_simp
     refine hK.out _ ?_ _ ?_ ?_; rotate_left 2
     · (try simp only [r21]); rfl
     exact ⟨hH, v0, v1, v2, v3, v4, v5, v6, v7, v8, v9, v10, v11, v12, v13, v14, v15, v16, v17, v18, v19, v20, v21, v22, v23, fun _ => rfl, v25, v26, v27, v28, v29, v30, v31, v32, v33, v34, v35⟩
   refine AllSteps.cons (j := 26) rfl (fun b t wx hJ hb hd hcl Kc hK => ?_) ?_
   · obtain ⟨hH, v0, v1, v2, v3, v4, v5, v6, v7, v8, v9, v10, v11, v12, v13, v14, v15, v16, v17, v18, v19, v20, v21, v22, v23, v24, v25, v26, v27, v28, v29, v30, v31, v32, v33, v34, v35⟩ := hJ
     have d21 := hd.out 21 (by kernel_rfl); have d24 := hd.out 24 (by kernel_rfl); have r21 := v21 d21; have r24 := v24 d24
     go_simp
     refine hK.out _ ?_ _ ?_ ?_; rotate_left 2
     · (try simp only [r21, r24]); rfl
     exact ⟨hH, v0, v1, v2, v3, v4, v5, v6, v7, v8, v9, v10, v11, v12, v13, v14, v15, v16, v17, v18, v19, v20, v21, v22, v23, v24, fun _ => rfl, v26, v27, v28, v29, v30, v31, v32, v33, v34, v35⟩
   refine AllSteps.cons (j := 27) rfl (fun b t wx hJ hb hd hcl Kc hK => ?_) ?_
   · obtain ⟨hH, v0, v1, v2, v3, v4, v5, v6, v7, v8, v9, v10, v11, v12, v13, v14, v15, v16, v17, v18, v19, v20, v21, v22, v23, v24, v25, v26, v27, v28, v29, v30, v31, v32, v33, v34, v35⟩ := hJ
     have d21 := hd.out 21 (by kernel_rfl); have d23 := hd.out 23 (by kernel_rfl); have d25 := hd.out 25 (by kernel_rfl); have r21 := v21 d21; have r23 := v23 d23; have r25 := v25 d25
     go_simp
     refine hK.out _ ?_ _ ?_ ?_; rotate_left 2
     · (try simp only [r21, r23, r25]); rfl
     exact ⟨hH, v0, v1, v2, v3, v4, v5, v6, v7, v8, v9, v10, v11, v12, v13, v14, v15, v16, v17, v18, v19, v20, v21, v22, v23, v24, v25, fun _ => rfl, v27, v28, v29, v30, v31, v32, v33, v34, v35⟩
   refine AllSteps.cons (j := 28) rfl (fun b t wx hJ hb hd hcl Kc hK => ?_) ?_
   · obtain ⟨hH, v0, v1, v2, v3, v4, v5, v6, v7, v8, v9, v10, v11, v12, v13, v14, v15, v16, v17, v18, v19, v20, v21, v22, v23, v24, v25, v26, v27, v28, v29, v30, v31, v32, v33, v34, v35⟩ := hJ
     have d21 := hd.out 21 (by kernel_rfl); have d26 := hd.out 26 (by kernel_rfl); have r21 := v21 d21; have r26 := v26 d26
     go_simp
     refine hK.out _ ?_ _ ?_ ?_; rotate_left 2
     · (try simp only [r21, r26]); rfl
     exact ⟨hH, v0, v1, v2, v3, v4, v5, v6, v7, v8, v9, v10, v11, v12, v13, v14, v15, v16, v17, v18, v19, v20, v21, v22, v23, v24, v25, v26, fun _ => rfl, v28, v29, v30, v31, v32, v33, v34, v35⟩
   refine AllSteps.cons (j := 29) rfl (fun b t wx hJ hb hd hcl Kc hK => ?_) ?_
   · obtain ⟨hH, v0, v1, v2, v3, v4, v5, v6, v7, v8, v9, v10, v11, v12, v13, v14, v15, v16, v17, v18, v19, v20, v21, v22, v23, v24, v25, v26, v27, v28, v29, v30, v31, v32, v33, v34, v35⟩ := hJ
     have d21 := hd.out 21 (by kernel_rfl); have d27 := hd.out 27 (by kernel_rfl); have r21 := v21 d21; have r27 := v27 d27
     go_simp
     refine hK.out _ ?_ _ ?_ ?_; rotate_left 2
     · (try simp only [r21, r27]); rfl
     exact ⟨hH, v0, v1, v2, v3, v4, v5, v6, v7, v8, v9, v10, v11, v12, v13, v14, v15, v16, v17, v18, v19, v20, v21, v22, v23, v24, v25, v26, v27, fun _ => rfl, v29, v30, v31, v32, v33, v34, v35⟩
   refine AllSteps.cons (j := 30) rfl (fun b t wx hJ hb hd hcl Kc hK => ?_) ?_
   · obtain ⟨hH, v0, v1, v2, v3, v4, v5, v6, v7, v8, v9, v10, v11, v12, v13, v14, v15, v16, v17, v18, v19, v20, v21, v22, v23, v24, v25, v26, v27, v28, v29, v30, v31, v32, v33, v34, v35⟩ := hJ
     have d28 := hd.out 28 (by kernel_rfl); have r28 := v28 d28
     go_simp
     refine hK.out _ ?_ _ ?_ ?_; rotate_left 2
     · (try simp only [r28]); rfl
     exact ⟨hH, v0, v1, v2, v3, v4, v5, v6, v7, v8, v9, v10, v11, v12, v13, v14, v15, v16, v17, v18, v19, v20, v21, v22, v23, v24, v25, v26, v27, v28, fun _ => rfl, v30, v31, v32, v33, v34, v35⟩
   refine AllSteps.cons (j := 31) rfl (fun b t wx hJ hb hd hcl Kc hK => ?_) ?_
   · obtain ⟨hH, v0, v1, v2, v3, v4, v5, v6, v7, v8, v9, v10, v11, v12, v13, v14, v15, v16, v17, v18, v19, v20, v21, v22, v23, v24, v25, v26, v27, v28, v29, v30, v31, v32, v33, v34, v35⟩ := hJ
     have d28 := hd.out 28 (by kernel_rfl); have d29 := hd.out 29 (by kernel_rfl); have r28 := v28 d28; have r29 := v29 d29
     go_simp
     refine hK.out _ ?_ _ ?_ ?_; rotate_left 2
     · (try simp only [r28, r29]); rfl
     exact ⟨hH, v0, v1, v2, v3, v4, v5, v6, v7, v8, v9, v10, v11, v12, v13, v14, v15, v16, v17, v18, v19, v20, v21, v22, v23, v24, v25, v26, v27, v28, v29, fun _ => rfl, v31, v32, v33, v34, v35⟩
   refine AllSteps.cons (j := 32) rfl (fun b t wx hJ hb hd hcl Kc hK => ?_) ?_
   · obtain ⟨hH, v0, v1, v2, v3, v4, v5, v6, v7, v8, v9, v10, v11, v12, v13, v14, v15, v16, v17, v18, v19, v20, v21, v22, v23, v24, v25, v26, v27, v28, v29, v30, v31, v32, v33, v34, v35⟩ := hJ
     have d28 := hd.out 28 (by kernel_rfl); have r28 := v28 d28; have q0_0 := hH.cl 0 0 rfl rfl; have q0_1 := hH.cl 0 1 rfl rfl; have q0_2 := hH.cl 0 2 rfl rfl; have q0_3 := hH.cl 0 3 rfl rfl; have q0_4 := hH.cl 0 4 rfl rfl
     go_simp
     refine hK.out _ ?_ _ ?_ ?_; rotate_left 2
     · (try simp only [r28]); rfl
     exact ⟨hH, v0, v1, v2, v3, v4, v5, v6, v7, v8, v9, v10, v11, v12, v13, v14, v15, v16, v17, v18, v19, v20, v21, v22, v23, v24, v25, v26, v27, v28, v29, v30, fun _ => rfl, v32, v33, v34, v35⟩
   refine AllSteps.cons (j := 33) rfl (fun b t wx hJ hb hd hcl Kc hK => ?_) ?_
   · obtain ⟨hH, v0, v1, v2, v3, v4, v5, v6, v7, v8, v9, v10, v11, v12, v13, v14, v15, v16, v17, v18, v19, v20, v21, v22, v23, v24, v25, v26, v27, v28, v29, v30, v31, v32, v33, v34, v35⟩ := hJ
     have d28 := hd.out 28 (by kernel_rfl); have d31 := hd.out 31 (by kernel_rfl); have r28 := v28 d28; have r31 := v31 d31
     go_simp
     go_at_call 82
     refine (closedLabels_any HR.out HN.out _ _ _ (hT0.ext hH.ext) (hO.ext hH.ext)).mono ?_; rintro e32 w32 ⟨v32, rfl, o32, h32⟩
     rw [HCC.out] at o32
     obtain ⟨y32, c32, rfl⟩ := o32.shape1 cN HCL.out
     (try go_simp)
     refine hK.out _ ?_ _ ?_ ?_; rotate_left 2
     · (try simp only [r28, r31]); rfl
     exact ⟨by have hX := hH.grow h32; simpa only [List.set_cons_zero, List.set_cons_succ, updB, updV, blkOf_mk, tup0_mk, partsOf3, Nat.reduceBEq, cond_true, cond_false, hb, d28, d31, r28, r31] using hX, v0, v1, v2, v3, v4, v5, v6, v7, v8, v9, v10, v11, v12, v13, v14, v15, v16, v17, v18, v19, v20, v21, v22, v23, v24, v25, v26, v27, v28, v29, v30, v31, fun _ => ⟨_, _, rfl⟩, v33, v34, v35⟩
   refine AllSteps.cons (j := 34) rfl (fun b t wx hJ hb hd hcl Kc hK => ?_) ?_
   · obtain ⟨hH, v0, v1, v2, v3, v4, v5, v6, v7, v8, v9, v10, v11, v12, v13, v14, v15, v16, v17, v18, v19, v20, v21, v22, v23, v24, v25, v26, v27, v28, v29, v30, v31, v32, v33, v34, v35⟩ := hJ
     have d28 := hd.out 28 (by kernel_rfl); have d32 := hd.out 32 (by kernel_rfl); have r28 := v28 d28; have r32 := v32 d32
     obtain ⟨y_32, c_32, r32⟩ := r32
     have e32 := r32 -- d32
     go_simp
     refine hK.out _ ?_ _ ?_ ?_; rotate_left 2
     · (try simp only [r28, r32]); rfl
     exact ⟨hH, v0, v1, v2, v3, v4, v5, v6, v7, v8, v9, v10, v11, v12, v13, v14, v15, v16, v17, v18, v19, v20, v21, v22, v23, v24, v25, v26, v27, v28, v29, v30, v31, v32, fun _ => rfl, v34, v35⟩
   refine AllSteps.cons (j := 35) rfl (fun b t wx hJ hb hd hcl Kc hK => ?_) ?_
   · obtain ⟨hH, v0, v1, v2, v3, v4, v5, v6, v7, v8, v9, v10, v11, v12, v13, v14, v15, v16, v17, v18, v19, v20, v21, v22, v23, v24, v25, v26, v27, v28, v29, v30, v31, v32, v33, v34, v35⟩ := hJ
     have d28 := hd.out 28 (by kernel_rfl); have d30 := hd.out 30 (by kernel_rfl); have d33 := hd.out 33 (by kernel_rfl); have r28 := v28 d28; have r30 := v30 d30; have r33 := v33 d33
     go_simp
     refine hK.out _ ?_ _ ?_ ?_; rotate_left 2
     · (try simp only [r28, r30, r33]); rfl
     exact ⟨hH, v0, v1, v2, v3, v4, v5, v6, v7, v8, v9, v10, v11, v12, v13, v14, v15, v16, v17, v18, v19, v20, v21, v22, v23, v24, v25, v26, v27, v28, v29, v30, v31, v32, v33, fun _ => rfl, v35⟩
   refine AllSteps.cons (j := 36) rfl (fun b t wx hJ hb hd hcl Kc hK => ?_) ?_
   · obtain ⟨hH, v0, v1, v2, v3, v4, v5, v6, v7, v8, v9, v10, v11, v12, v13, v14, v15, v16, v17, v18, v19, v20, v21, v22, v23, v24, v25, v26, v27, v28, v29, v30, v31, v32, v33, v34, v35⟩ := hJ
     have d28 := hd.out 28 (by kernel_rfl); have d34 := hd.out 34 (by kernel_rfl); have r28 := v28 d28; have r34 := v34 d34
     go_simp
     refine hK.out _ ?_ _ ?_ ?_; rotate_left 2
     · (try simp only [r28, r34]); rfl
     exact ⟨hH, v0, v1, v2, v3, v4, v5, v6, v7, v8, v9, v10, v11, v12, v13, v14, v15, v16, v17, v18, v19, v20, v21, v22, v23, v24, v25, v26, v27, v28, v29, v30, v31, v32, v33, v34, fun _ => rfl⟩
   exact AllSteps.nil
 case hEe =>
  intro b t we hJ hall
  obtain ⟨hHe, v0, v1, v2, v3, v4, v5, v6, v7, v8, v9, v10, v11, v12, v13, v14, v15, v16, v17, v18, v19, v20, v21, v22, v23, v24, v25, v26, v27, v28, v29, v30, v31, v32, v33, v34, v35⟩ := hJ
  have a0 := hall 0 (by decide); have a1 := hall 1 (by decide); have a2 := hall 2 (by decide); have a3 := hall 3 (by decide); have a4 := hall 4 (by decide); have a5 := hall 5 (by decide); have a6 := hall 6 (by decide); have a7 := hall 7 (by decide); have a8 := hall 8 (by decide); have a9 := hall 9 (by decide); have a10 := hall 10 (by decide); have a11 := hall 11 (by decide); have a12 := hall 12 (by decide); have a13 := hall 13 (by decide); have a14 := hall 14 (by decide); have a15 := hall 15 (by decide); have a16 := hall 16 (by decide); have a17 := hall 17 (by decide); have a18 := hall 18 (by decide); have a19 := hall 19 (by decide); have a20 := hall 20 (by decide); have a21 := hall 21 (by decide); have a22 := hall 22 (by decide); have a23 := hall 23 (by decide); have a24 := hall 24 (by decide); have a25 := hall 25 (by decide); have a26 := hall 26 (by decide); have a27 := hall 27 (by decide); have a28 := hall 28 (by decide); have a29 := hall 29 (by decide); have a30 := hall 30 (by decide); have a31 := hall 31 (by decide); have a32 := hall 32 (by decide); have a33 := hall 33 (by decide); have a34 := hall 34 (by decide); have a35 := hall 35 (by decide)
  (try simp only [a0, a1, a2, a3, a4, a5, a6, a7, a8, a9, a10, a11, a12, a13, a14, a15, a16, a17, a18, a19, a20, a21, a22, a23, a24, a25, a26, a27, a28, a29, a30, a31, a32, a33, a34, a35, cond_true] at hHe)
  replace v0 := v0 a0; replace v1 := v1 a1; replace v2 := v2 a2; replace v3 := v3 a3; replace v4 := v4 a4; replace v5 := v5 a5; replace v6 := v6 a6; replace v7 := v7 a7; replace v8 := v8 a8; replace v9 := v9 a9; replace v10 := v10 a10; replace v11 := v11 a11; replace v12 := v12 a12; replace v13 := v13 a13; replace v14 := v14 a14; replace v15 := v15 a15; replace v16 := v16 a16; replace v17 := v17 a17; replace v18 := v18 a18; replace v19 := v19 a19; replace v20 := v20 a20; replace v21 := v21 a21; replace v22 := v22 a22; replace v23 := v23 a23; replace v24 := v24 a24; replace v25 := v25 a25; replace v26 := v26 a26; replace v27 := v27 a27; replace v28 := v28 a28; replace v29 := v29 a29; replace v30 := v30 a30; replace v31 := v31 a31; replace v32 := v32 a32; replace v33 := v33 a33; replace v34 := v34 a34; replace v35 := v35 a35
  clear hall a0 a1 a2 a3 a4 a5 a6 a7 a8 a9 a10 a11 a12 a13 a14 a15 a16 a17 a18 a19 a20 a21 a22 a23 a24 a25 a26 a27 a28 a29 a30 a31 a32 a33 a34 a35
  generalize t 35 = x35 at hHe v35 ⊢; generalize t 34 = x34 at hHe v34 ⊢; generalize t 33 = x33 at hHe v33 ⊢; generalize t 32 = x32 at hHe v32 ⊢; generalize t 31 = x31 at hHe v31 ⊢; generalize t 30 = x30 at hHe v30 ⊢; generalize t 29 = x29 at hHe v29 ⊢; generalize t 28 = x28 at hHe v28 ⊢; generalize t 27 = x27 at hHe v27 ⊢; generalize t 26 = x26 at hHe v26 ⊢; generalize t 25 = x25 at hHe v25 ⊢; generalize t 24 = x24 at hHe v24 ⊢; generalize t 23 = x23 at hHe v23 ⊢; generalize t 22 = x22 at hHe v22 ⊢; generalize t 21 = x21 at hHe v21 ⊢; generalize t 20 = x20 at hHe v20 ⊢; generalize t 19 = x19 at hHe v19 ⊢; generalize t 18 = x18 at hHe v18 ⊢; generalize t 17 = x17 at hHe v17 ⊢; generalize t 16 = x16 at hHe v16 ⊢; generalize t 15 = x15 at hHe v15 ⊢; generalize t 14 = x14 at hHe v14 ⊢; generalize t 13 = x13 at hHe v13 ⊢; generalize t 12 = x12 at hHe v12 ⊢; generalize t 11 = x11 at hHe v11 ⊢; generalize t 10 = x10 at hHe v10 ⊢; generalize t 9 = x9 at hHe v9 ⊢; generalize t 8 = x8 at hHe v8 ⊢; generalize t 7 = x7 at hHe v7 ⊢; generalize t 6 = x6 at hHe v6 ⊢; generalize t 5 = x5 at hHe v5 ⊢; generalize t 4 = x4 at hHe v4 ⊢; generalize t 3 = x3 at hHe v3 ⊢; generalize t 2 = x2 at hHe v2 ⊢; generalize t 1 = x1 at hHe v1 ⊢; generalize t 0 = x0 at hHe v0 ⊢; subst v0; subst v1; subst v2; subst v3; subst v4
  obtain ⟨p1e5, n1e5, c1e5, p2e5, n2e5, c2e5, p3e5, n3e5, c3e5, rfl⟩ := v5
  subst v6; subst v7; subst v8; subst v9; subst v10; subst v11; subst v12; subst v13; subst v14; subst v15; subst v16; subst v17; subst v18; subst v19; subst v20; subst v21; subst v22; subst v23; subst v24; subst v25; subst v26; subst v27; subst v28; subst v29; subst v30; subst v31
  obtain ⟨ye32, ce32, rfl⟩ := v32
  subst v33; subst v34; subst v35
  clear b
  replace hH := hHe; clear hHe
  replace hH : Held wN we [aB (wN.heap.size) 29 [.int .i64 k, .int .i64 p, .int .i64 n, .slice aV m cV, .slice aO op.length cO], aI (.slice xl cN cl) M, aI (.slice xw cN cw) WM, aI (.slice xg cN cg) G, aT (.agg #[.slice tp1 tn1 tc1, .slice tp2 tn2 tc2, .slice tp3 tn3 tc3]) op (op.map dimOf) (flat RX), aB (wn7.heap.size) 32 [.slice tp1 tn1 tc1, .slice tp2 tn2 tc2, .slice tp3 tn3 tc3], aT (.agg #[.slice p1e5 n1e5 c1e5, .slice p2e5 n2e5 c2e5, .slice p3e5 n3e5 c3e5]) op (op.map dimOf) (flat RX)] := hH
  replace hH : Held wN we [aB (wN.heap.size) 29 [.int .i64 k, .int .i64 p, .int .i64 n, .slice aV m cV, .slice aO op.length cO], aI (.slice xl cN cl) M, aI (.slice xw cN cw) WM, aI (.slice xg cN cg) G] := hH.sub (.cons_cons _ (.cons_cons _ (.cons_cons _ (.cons_cons _ (.cons _ (.cons _ (.cons _ .slnil)))))))
  obtain ⟨wx2, rfl⟩ : ∃ q, q = we := ⟨we, rfl⟩
  have q0_0 := hH.cl 0 0 rfl rfl; have q0_1 := hH.cl 0 1 rfl rfl; have q0_2 := hH.cl 0 2 rfl rfl; have q0_3 := hH.cl 0 3 rfl rfl; have q0_4 := hH.cl 0 4 rfl rfl; have l0_ := hH.bl 0 rfl; have c_kr_0 := hH.ext.cell kr_0; have c_kr_1 := hH.ext.cell kr_1; have c_kr_2 := hH.ext.cell kr_2
  have c_kr_l := Nat.lt_of_lt_of_le kr_l hH.ext.size
  go_wp2_with fail
  clear q0_0 q0_1 q0_2 q0_3 q0_4 l0_ c_kr_0 c_kr_1 c_kr_2 c_kr_l
  refine (eliminationWidths_any HR.out HN.out _ _ _ (hT0.ext hH.ext) (hO.ext hH.ext) _ G (hH.ints (k := 3) rfl) (by rw [HCC.out]; exact HPG.out)).mono ?_; rintro ewn10 wn10 ⟨v5, rfl, o5, hwn10⟩
  rw [HLS.out] at o5
  obtain ⟨WG, hWG⟩ : ∃ q, widI LS G = q := ⟨_, rfl⟩
  have HWG := Lib.hid hWG
  have hwl : WG.length = cN := by rw [← hWG, widI_length, ← HPG.out.length_eq]; exact HCL.out
  rw [hWG] at o5
  obtain ⟨xv, cv, rfl⟩ := o5.shape1 cN hwl
  have HGL := Lib.hid hwl; clear hWG hwl
  replace hH : Held wN wn10 [aB (wN.heap.size) 29 [.int .i64 k, .int .i64 p, .int .i64 n, .slice aV m cV, .slice aO op.length cO], aI (.slice xl cN cl) M, aI (.slice xw cN cw) WM, aI (.slice xg cN cg) G, aI (.slice xv cN cv) WG] := (hH.mores 1).addI 4 hwn10 o5 (Nat.le_refl _)
  clear hwn10
  have HZG2 : Hid (zb ≤ topM WG cN) := Lib.hid (by
   have h := topM_wid LS G
   rw [HWG.out, HGL.out] at h
   rw [h]; exact HZG.out)
  have HZM2 : Hid (zb ≤ topM WM cN) := Lib.hid (by
   have h := topM_wid LS M
   rw [HWM.out, HWL.out] at h
   rw [h]; exact HZM.out)
  have q0_0 := hH.cl 0 0 rfl rfl; have q0_1 := hH.cl 0 1 rfl rfl; have q0_2 := hH.cl 0 2 rfl rfl; have q0_3 := hH.cl 0 3 rfl rfl; have q0_4 := hH.cl 0 4 rfl rfl; have l0_ := hH.bl 0 rfl; have c_kr_0 := hH.ext.cell kr_0; have c_kr_1 := hH.ext.cell kr_1; have c_kr_2 := hH.ext.cell kr_2
  have c_kr_l := Nat.lt_of_lt_of_le kr_l hH.ext.size
  go_wp2_with fail
  clear q0_0 q0_1 q0_2 q0_3 q0_4 l0_ c_kr_0 c_kr_1 c_kr_2 c_kr_l
  go_loopw [11, 12, 79] (fun va vb i wr => ∃ (j : Nat) (a b : Int), j ≤ cN ∧ i = .int .i64 (j : Int) ∧ va = .int .i64 a ∧ vb = .int .i64 b ∧ Hid (topM WG j = a ∧ topM WM j = b) ∧ Held wN wr [aB (wN.heap.size) 29 [.int .i64 k, .int .i64 p, .int .i64 n, .slice aV m cV, .slice aO op.length cO], aI (.slice xl cN cl) M, aI (.slice xw cN cw) WM, aI (.slice xg cN cg) G, aI (.slice xv cN cv) WG]) (fun va vb i wr => cN - (RowKit.intOf i).toNat)
  case atStart => exact ⟨0, 0, 0, Nat.zero_le _, rfl, rfl, rfl, Lib.hid ⟨rfl, rfl⟩, hH⟩
  case round =>
   clear hH
   obtain ⟨j, a, b, hj, rfl, rfl, rfl, HAB, hH⟩ := hrel
   obtain ⟨wq, rfl⟩ : ∃ q, q = wr := ⟨wr, rfl⟩
   by_cases hlt : j < cN
   ·
    obtain ⟨bG, oG, x, hVG, hcx, hx, _⟩ := (hH.ints (k := 4) rfl).get (i := j) (by rw [HGL.out]; exact hlt)
    cases hVG
    obtain ⟨bM, oM, y, hVM, hcy, hy, _⟩ := (hH.ints (k := 2) rfl).get (i := j) (by rw [HWL.out]; exact hlt)
    cases hVM
    have HST : Hid (topM WG (j + 1) = max a x ∧ topM WM (j + 1) = max b y) := Lib.hid ⟨by rw [topM_succ hx, HAB.out.1], by rw [topM_succ hy, HAB.out.2]⟩
    clear hx hy
    by_cases ha : a < x
    ·
     by_cases hb : b < y
     ·
      go_wp2_with fail
      go_roundw
      case rel => exact ⟨j + 1, x, y, by omega, by go_num, rfl, rfl, Lib.hid ⟨by rw [HST.out.1]; omega, by rw [HST.out.2]; omega⟩, hH⟩
      case measure => simp [RowKit.intOf]; omega
     ·
      go_wp2_with fail
      go_roundw
      case rel => exact ⟨j + 1, x, b, by omega, by go_num, rfl, rfl, Lib.hid ⟨by rw [HST.out.1]; omega, by rw [HST.out.2]; omega⟩, hH⟩
      case measure => simp [RowKit.intOf]; omega
    ·
     by_cases hb : b < y
     ·
      go_wp2_with fail
      go_roundw
      case rel => exact ⟨j + 1, a, y, by omega, by go_num, rfl, rfl, Lib.hid ⟨by rw [HST.out.1]; omega, by rw [HST.out.2]; omega⟩, hH⟩
      case measure => simp [RowKit.intOf]; omega
     ·
      go_wp2_with fail
      go_roundw
      case rel => exact ⟨j + 1, a, b, by omega, by go_num, rfl, rfl, Lib.hid ⟨by rw [HST.out.1]; omega, by rw [HST.out.2]; omega⟩, hH⟩
      case measure => simp [RowKit.intOf]; omega
   ·
    have hje : j = cN := by omega
    subst hje
    have h1 : zb ≤ a := by rw [← HAB.out.1]; exact HZG2.out
    have h2 : zb ≤ b := by rw [← HAB.out.2]; exact HZM2.out
    have HE := Lib.hid (E0.trans hH.ext); clear hH
    by_cases hc : 0 < j
    ·
     have h3 := HZ1.out hc; have h4 : 0 < zb := by omega
     go_wp2
     go_ret
     exact ⟨rfl, HE.out⟩
    ·
     have h3 := HZ0.out (by omega); subst h3
     go_wp2
     go_ret
     exact ⟨rfl, HE.out⟩
end Go.Proofs.Ytpegckmagiaggaa
