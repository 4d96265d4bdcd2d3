/- The law 'FnJoined', walked. -/
import Derived.Test.YtpegckmagiaggaaJRelabN
import Derived.Test.YtpegckmagiaggaaJJoinW
import Derived.Test.YtpegckmagiaggaaJScaleW
set_option linter.unusedSimpArgs false
set_option linter.unusedVariables false
namespace Go.Proofs.Ytpegckmagiaggaa
open Go.RowKit
theorem lawsInJ_any (v : Value) (l : List Int) (x : Int) (w : World) (hl : IntS w v l) : Calls Try.prog 22 #[v, .int .i64 x] w fun e w' =>
 e = .returned (.bool (hasL l x)) ∧ w = w' := by
 obtain ⟨a, cap, rfl, hc1, hc2⟩ := hl.val
 go_enter Try.func22, Try.ntmps22
 go_wp2
 go_loop [9] (fun i => ∃ j : Nat, j ≤ l.length ∧ i = .int .i64 j ∧ hasL (l.drop j) x = hasL l x) (fun i => l.length - (RowKit.intOf i).toNat)
 case atStart => exact ⟨0, Nat.zero_le _, rfl, rfl⟩
 case round =>
  obtain ⟨j, hj, rfl, hq⟩ := hrel
  by_cases hlt : j < l.length
  · obtain ⟨b, off, y, rfl, hcell, _, hd⟩ := hl.get hlt
    rw [hd, hasL_cons] at hq
    have HQ := Lib.hid hq; clear hq hd
    by_cases e : x = y
    · subst e
      go_wp2
      go_ret
      exact ⟨ret_bool (by rw [← HQ.out]; simp), rfl⟩
    · have e2 : (x == y) = false := by rw [beq_eq_false_iff_ne]; exact e
      have e3 : ¬ y = x := fun h => e h.symm
      go_wp2
      go_round
      case rel => exact ⟨j + 1, by omega, by go_num, by rw [← HQ.out, e2]; rfl⟩
      case measure => simp [RowKit.intOf]; omega
  · have : j = l.length := by omega
    subst this
    have HQ := Lib.hid hq; clear hq
    go_wp2
    go_ret
    exact ⟨ret_bool (by rw [← HQ.out, drop_len]; rfl), rfl⟩
theorem HeldX.emptyJ {ex : Option Nat} {a w : World} {L : List Asn} (h : HeldX ex a w L) (k : Nat) : HeldX ex a (w.alloc (.cells #[] 3)) (L.set k (aI (.slice (some ⟨w.heap.size, 0, none⟩) 0 0) [])) :=
  h.addI k ((Ext.refl _).alloc _) (OwnI.empty (Nat.le_refl _) rfl) (Nat.le_refl _)
theorem U6_get {j : Nat} (h : j < 6) : U6[j]? = some (j : Int) := by
  have : j = 0 ∨ j = 1 ∨ j = 2 ∨ j = 3 ∨ j = 4 ∨ j = 5 := by omega
  rcases this with rfl | rfl | rfl | rfl | rfl | rfl <;> rfl
set_option maxRecDepth 100000 in
set_option maxHeartbeats 8000000 in
theorem walkFnJoined (v : Value) (l : List Int) (w : World) (hl : ByteS w v l) (hall : ∀ x ∈ l, 0 ≤ x ∧ x ≤ 255) :
 Calls Try.prog 8 #[v] w fun e w' => e = .returned (.bool true) ∧ Ext w w' := by
 obtain ⟨ca, cap, rfl, hc1, hc2⟩ := hl.val
 by_cases big : 1048576 < l.length
 · go_enter Try.func8, Try.ntmps8
   go_wp2
   go_ret
   exact ⟨rfl, (by repeat' (first | (with_reducible exact Ext.refl _) | (with_reducible assumption) | (with_reducible apply Ext.alloc) | (with_reducible apply Ext.drew) | (with_reducible apply Ext.drewN) | (refine Ext.setAt ?_ (by omega) _ _) | (refine Ext.trans ?_ (by assumption))))⟩
 have hC : Code w (.slice ca l.length cap) l := ⟨hl, hall, by omega⟩
 clear hall hl
 have hH : Held w w [] := Held.new (Ext.refl w) 0
 go_enter Try.func8, Try.ntmps8
 go_wp2_with fail
 refine (makeRing_any _ l 0 _ (hC.ext hH.ext) (by omega)).mono ?_; rintro ewn1 wn1 ⟨k, p, n, rfl, hd, hwn1⟩
 have HR := Lib.hid (drawn_ok hd); clear hd
 replace hH : Held w wn1 [] := hH.grow hwn1
 clear hwn1
 go_wp2_with fail
 have hB : Held w (wn1.alloc (.cells #[.int .i64 k, .int .i64 p, .int .i64 n] 24)) [aB (wn1.heap.size) 24 [.int .i64 k, .int .i64 p, .int .i64 n]] := by
  have h := (hH.mores 1).addB 0 #[.int .i64 k, .int .i64 p, .int .i64 n] 24
  exact h
 have hsz : (wn1.alloc (.cells #[.int .i64 k, .int .i64 p, .int .i64 n] 24)).heap.size = wn1.heap.size + 1 := by simp
 generalize wn1.alloc (.cells #[.int .i64 k, .int .i64 p, .int .i64 n] 24) = wn2 at hB hsz ⊢
 replace hH := hB; have HSZwn2 := Lib.hid hsz; clear hB hsz
 have q0_0 := hH.cl 0 0 rfl rfl; have q0_1 := hH.cl 0 1 rfl rfl; have q0_2 := hH.cl 0 2 rfl rfl; have l0_ := hH.bl 0 rfl
 go_wp2_with fail
 clear q0_0 q0_1 q0_2 l0_
 refine (makeNetwork_any _ l 10 k p n 3 HR.out (by omega) (by omega) _ (hC.ext hH.ext) (by omega)).mono ?_; rintro ewN wN ⟨tv, ov, cs, ts, op, rfl, hJ, hN, hmost⟩
 have E0 : Ext w wN := hH.ext.trans hJ.ext
 have hT : TensS wN tv (ts.map (tenOf dimOf)) := hJ.tensS (k := 0) rfl
 have hO : IntS wN ov op := hJ.ints (k := 1) rfl
 have kr_0 := ((hH.grow hJ.ext).blk (k := 0) rfl).cell (j := 0) rfl
 have kr_1 := ((hH.grow hJ.ext).blk (k := 0) rfl).cell (j := 1) rfl
 have kr_2 := ((hH.grow hJ.ext).blk (k := 0) rfl).cell (j := 2) rfl
 have kr_l := ((hH.grow hJ.ext).blk (k := 0) rfl).lt
 have hCN := hC.ext E0
 obtain ⟨m, hm⟩ : ∃ m, ts.length = m := ⟨_, rfl⟩
 obtain ⟨aV, cV, rfl, hcT1, hcT2⟩ := hT.val
 obtain ⟨aO, cO, rfl, hcO1, hcO2⟩ := hO.val
 have hT0 : TensS wN (.slice aV m cV) (ts.map (tenOf dimOf)) := by rw [List.length_map, hm] at hT; exact hT
 rw [List.length_map, hm] at hT hcT1
 rw [List.length_map, hm]
 have hm12 : m ≤ 3 := by rw [← hm]; omega
 have hop12 : op.length ≤ 12 := hN.rank
 have HM := Lib.hid hm; have HN := Lib.hid hN; have HD3 := Lib.hid hN.dims3; clear hm hN hmost hJ hC
 have hTl : Hid ((ts.map (tenOf dimOf)).length = m) := Lib.hid (by rw [List.length_map]; exact HM.out)
 clear hH
 have hC := hCN; clear hCN
 have hH : Held wN wN [] := Held.new (Ext.refl _) 0
 have c_kr_0 := hH.ext.cell kr_0; have c_kr_1 := hH.ext.cell kr_1; have c_kr_2 := hH.ext.cell kr_2
 have c_kr_l := Nat.lt_of_lt_of_le kr_l hH.ext.size
 go_wp2_with fail
 clear c_kr_0 c_kr_1 c_kr_2 c_kr_l
 have hB : Held wN (wN.alloc (.cells #[.int .i64 k, .int .i64 p, .int .i64 n, .slice aV m cV, .slice aO op.length cO] 29)) [aB (wN.heap.size) 29 [.int .i64 k, .int .i64 p, .int .i64 n, .slice aV m cV, .slice aO op.length cO]] := by
  have h := (hH.mores 1).addB 0 #[.int .i64 k, .int .i64 p, .int .i64 n, .slice aV m cV, .slice aO op.length cO] 29
  exact h
 have hsz : (wN.alloc (.cells #[.int .i64 k, .int .i64 p, .int .i64 n, .slice aV m cV, .slice aO op.length cO] 29)).heap.size = wN.heap.size + 1 := by simp
 generalize wN.alloc (.cells #[.int .i64 k, .int .i64 p, .int .i64 n, .slice aV m cV, .slice aO op.length cO] 29) = wn3 at hB hsz ⊢
 replace hH := hB; have HSZwn3 := Lib.hid hsz; clear hB hsz
 have q0_0 := hH.cl 0 0 rfl rfl; have q0_1 := hH.cl 0 1 rfl rfl; have q0_2 := hH.cl 0 2 rfl rfl; have q0_3 := hH.cl 0 3 rfl rfl; have q0_4 := hH.cl 0 4 rfl rfl; have l0_ := hH.bl 0 rfl; have c_kr_0 := hH.ext.cell kr_0; have c_kr_1 := hH.ext.cell kr_1; have c_kr_2 := hH.ext.cell kr_2
 have c_kr_l := Nat.lt_of_lt_of_le kr_l hH.ext.size
 go_wp2_with fail
 clear q0_0 q0_1 q0_2 q0_3 q0_4 l0_ c_kr_0 c_kr_1 c_kr_2 c_kr_l
 refine (makeNetwork_any _ l 60 k p n 3 HR.out (by omega) (by omega) _ (hC.ext hH.ext) (by omega)).mono ?_; rintro ewn4 wn4 ⟨tvB, ovB, csB, ms, mop, rfl, hJ, hNm, hmostB⟩
 obtain ⟨mB, hmB⟩ : ∃ q, ms.length = q := ⟨_, rfl⟩
 obtain ⟨aW, cW, rfl, hcW1, hcW2⟩ := (hJ.tensS (k := 0) rfl).val
 obtain ⟨aQ, cQ, rfl, hcQ1, hcQ2⟩ := (hJ.ints (k := 1) rfl).val
 rw [List.length_map, hmB] at hJ hcW1
 rw [List.length_map, hmB]
 have hmB3 : mB ≤ 3 := by rw [← hmB]; omega
 have hmop12 : mop.length ≤ 12 := hNm.rank
 have HMB := Lib.hid hmB; have HNB := Lib.hid hNm
 clear hmB hNm hmostB
 replace hH : Held wN wn4 [aB (wN.heap.size) 29 [.int .i64 k, .int .i64 p, .int .i64 n, .slice aV m cV, .slice aO op.length cO], aTs (.slice aW mB cW) csB (ms.map (tenOf dimOf)), aI (.slice aQ mop.length cQ) mop] := hH.join hJ (fun q hq => by cases hq)
 clear hJ
 have q0_0 := hH.cl 0 0 rfl rfl; have q0_1 := hH.cl 0 1 rfl rfl; have q0_2 := hH.cl 0 2 rfl rfl; have q0_3 := hH.cl 0 3 rfl rfl; have q0_4 := hH.cl 0 4 rfl rfl; have l0_ := hH.bl 0 rfl; have c_kr_0 := hH.ext.cell kr_0; have c_kr_1 := hH.ext.cell kr_1; have c_kr_2 := hH.ext.cell kr_2
 have c_kr_l := Nat.lt_of_lt_of_le kr_l hH.ext.size
 go_upto_region 6 with fail
 clear q0_0 q0_1 q0_2 q0_3 q0_4 l0_ c_kr_0 c_kr_1 c_kr_2 c_kr_l
 have hB : Held wN (wn4.alloc (.cells #[.int .i64 k, .int .i64 p, .int .i64 n, .slice aW mB cW, .slice aQ mop.length cQ] 29)) [aB (wN.heap.size) 29 [.int .i64 k, .int .i64 p, .int .i64 n, .slice aV m cV, .slice aO op.length cO], aTs (.slice aW mB cW) csB (ms.map (tenOf dimOf)), aI (.slice aQ mop.length cQ) mop, aB (wn4.heap.size) 29 [.int .i64 k, .int .i64 p, .int .i64 n, .slice aW mB cW, .slice aQ mop.length cQ]] := by
  have h := (hH.mores 1).addB 3 #[.int .i64 k, .int .i64 p, .int .i64 n, .slice aW mB cW, .slice aQ mop.length cQ] 29
  exact h
 have hsz : (wn4.alloc (.cells #[.int .i64 k, .int .i64 p, .int .i64 n, .slice aW mB cW, .slice aQ mop.length cQ] 29)).heap.size = wn4.heap.size + 1 := by simp
 generalize wn4.alloc (.cells #[.int .i64 k, .int .i64 p, .int .i64 n, .slice aW mB cW, .slice aQ mop.length cQ] 29) = wn5 at hB hsz ⊢
 replace hH := hB; have HSZwn5 := Lib.hid hsz; clear hB hsz
 obtain ⟨wa1, rfl⟩ : ∃ q, q = wn5 := ⟨wn5, rfl⟩
 have q0_0 := hH.cl 0 0 rfl rfl; have q0_1 := hH.cl 0 1 rfl rfl; have q0_2 := hH.cl 0 2 rfl rfl; have q0_3 := hH.cl 0 3 rfl rfl; have q0_4 := hH.cl 0 4 rfl rfl; have l0_ := hH.bl 0 rfl; have q3_0 := hH.cl 3 0 rfl rfl; have q3_1 := hH.cl 3 1 rfl rfl; have q3_2 := hH.cl 3 2 rfl rfl; have q3_3 := hH.cl 3 3 rfl rfl; have q3_4 := hH.cl 3 4 rfl rfl; have l3_ := hH.bl 3 rfl; have c_kr_0 := hH.ext.cell kr_0; have c_kr_1 := hH.ext.cell kr_1; have c_kr_2 := hH.ext.cell kr_2
 have c_kr_l := Nat.lt_of_lt_of_le kr_l hH.ext.size
 go_upto_region 7 with fail
 clear q0_0 q0_1 q0_2 q0_3 q0_4 l0_ q3_0 q3_1 q3_2 q3_3 q3_4 l3_ c_kr_0 c_kr_1 c_kr_2 c_kr_l
 have hB : Held wN (wa1.alloc (.cells #[.int .i64 0, .int .i64 1, .int .i64 2, .int .i64 3, .int .i64 4, .int .i64 5] 3)) [aB (wN.heap.size) 29 [.int .i64 k, .int .i64 p, .int .i64 n, .slice aV m cV, .slice aO op.length cO], aTs (.slice aW mB cW) csB (ms.map (tenOf dimOf)), aI (.slice aQ mop.length cQ) mop, aB (wn4.heap.size) 29 [.int .i64 k, .int .i64 p, .int .i64 n, .slice aW mB cW, .slice aQ mop.length cQ], aI (.slice (some ⟨wa1.heap.size, 0, none⟩) 6 6) [0, 1, 2, 3, 4, 5]] := by
  have h := (hH.mores 1).built 4 [0, 1, 2, 3, 4, 5] 6 rfl (by simp [maxLen]) #[.int .i64 0, .int .i64 1, .int .i64 2, .int .i64 3, .int .i64 4, .int .i64 5] rfl
  exact h
 have hsz : (wa1.alloc (.cells #[.int .i64 0, .int .i64 1, .int .i64 2, .int .i64 3, .int .i64 4, .int .i64 5] 3)).heap.size = wa1.heap.size + 1 := by simp
 generalize wa1.alloc (.cells #[.int .i64 0, .int .i64 1, .int .i64 2, .int .i64 3, .int .i64 4, .int .i64 5] 3) = wn6 at hB hsz ⊢
 replace hH := hB; have HSZwn6 := Lib.hid hsz; clear hB hsz
 obtain ⟨wb1, rfl⟩ : ∃ q, q = wn6 := ⟨wn6, rfl⟩
 have q0_0 := hH.cl 0 0 rfl rfl; have q0_1 := hH.cl 0 1 rfl rfl; have q0_2 := hH.cl 0 2 rfl rfl; have q0_3 := hH.cl 0 3 rfl rfl; have q0_4 := hH.cl 0 4 rfl rfl; have l0_ := hH.bl 0 rfl; have q3_0 := hH.cl 3 0 rfl rfl; have q3_1 := hH.cl 3 1 rfl rfl; have q3_2 := hH.cl 3 2 rfl rfl; have q3_3 := hH.cl 3 3 rfl rfl; have q3_4 := hH.cl 3 4 rfl rfl; have l3_ := hH.bl 3 rfl; have c_kr_0 := hH.ext.cell kr_0; have c_kr_1 := hH.ext.cell kr_1; have c_kr_2 := hH.ext.cell kr_2
 have c_kr_l := Nat.lt_of_lt_of_le kr_l hH.ext.size
 go_upto_region 8 with fail
 clear q0_0 q0_1 q0_2 q0_3 q0_4 l0_ q3_0 q3_1 q3_2 q3_3 q3_4 l3_ c_kr_0 c_kr_1 c_kr_2 c_kr_l
 have hB : Held wN (wb1.alloc (.cells #[] 3)) [aB (wN.heap.size) 29 [.int .i64 k, .int .i64 p, .int .i64 n, .slice aV m cV, .slice aO op.length cO], aTs (.slice aW mB cW) csB (ms.map (tenOf dimOf)), aI (.slice aQ mop.length cQ) mop, aB (wn4.heap.size) 29 [.int .i64 k, .int .i64 p, .int .i64 n, .slice aW mB cW, .slice aQ mop.length cQ], aI (.slice (some ⟨wa1.heap.size, 0, none⟩) 6 6) [0, 1, 2, 3, 4, 5], aI (.slice (some ⟨wb1.heap.size, 0, none⟩) 0 0) []] := by
  have h := (hH.mores 1).emptyJ 5
  exact h
 have hsz : (wb1.alloc (.cells #[] 3)).heap.size = wb1.heap.size + 1 := by simp
 generalize wb1.alloc (.cells #[] 3) = wn7 at hB hsz ⊢
 replace hH := hB; have HSZwn7 := Lib.hid hsz; clear hB hsz
 obtain ⟨wf, rfl⟩ : ∃ q, q = wn7 := ⟨wn7, rfl⟩
 obtain ⟨AW, hAW⟩ : ∃ f, awayF op mop = f := ⟨_, rfl⟩
 have HAWD : Hid (∀ x, AW x = if hasL op x = true ∧ hasL mop x = true then x else 20 + x) := Lib.hid fun x => by rw [← hAW]; rfl
 have HCOM := Lib.hid (away_com HN.out HNB.out)
 have HREN := Lib.hid (ren_away op mop)
 have HJN := Lib.hid (join_isN HN.out HNB.out (by have h1 := HM.out; have h2 := HMB.out; omega))
 have HJV := Lib.hid (join_val HR.out HN.out HNB.out)
 have HBN := Lib.hid (ren_isN HREN.out HNB.out)
 have HNW := Lib.hid (HN.out.wider ren_low)
 rw [hAW] at HCOM HREN HJN HJV HBN
 clear hAW
 obtain ⟨AL, hAL⟩ : ∃ q, U6.map AW = q := ⟨_, rfl⟩
 rw [hAL] at HCOM HREN HJN HJV HBN
 have HFG : Hid (U6.length = AL.length) := Lib.hid (by rw [← hAL, List.length_map])
 have HAL := Lib.hid hAL; clear hAL
 obtain ⟨BT, hBT⟩ : ∃ q, renN (renL U6 AL) ms = q := ⟨_, rfl⟩
 obtain ⟨BO, hBO⟩ : ∃ q, mop.map (renL U6 AL) = q := ⟨_, rfl⟩
 rw [hBT] at HCOM HJN HJV HBN
 rw [hBO] at HCOM HJV HBN
 have HBT := Lib.hid hBT; have HBO := Lib.hid hBO
 have HBL : Hid (BT.length = mB) := Lib.hid (by rw [← hBT]; unfold renN; rw [List.length_map]; exact HMB.out)
 have HBOL : Hid (BO.length = mop.length) := Lib.hid (by rw [← hBO, List.length_map])
 obtain ⟨TC, hTC⟩ : ∃ q, ts ++ BT = q := ⟨_, rfl⟩
 rw [hTC] at HJN HJV
 have HTC := Lib.hid hTC; clear hTC
 obtain ⟨mc, hmc⟩ : ∃ q, TC.length = q := ⟨_, rfl⟩
 have HMC := Lib.hid hmc; clear hmc
 obtain ⟨VC, hVC⟩ : ∃ q, netXs HR.out dm12 TC op = q := ⟨_, rfl⟩
 rw [hVC] at HJV
 have HVC := Lib.hid hVC; clear hVC
 have IVN := Lib.hid (netXs_isT HR.out HNW.out)
 have IVB := Lib.hid (netXs_isT HR.out HBN.out)
 obtain ⟨VN, hVN⟩ : ∃ q, netXs HR.out dm12 ts op = q := ⟨_, rfl⟩
 obtain ⟨VB, hVB⟩ : ∃ q, netXs HR.out dm12 BT BO = q := ⟨_, rfl⟩
 rw [hVN, hVB] at HJV
 rw [hVN] at IVN
 rw [hVB] at IVB
 have HVN := Lib.hid hVN; have HVB := Lib.hid hVB; clear hVN hVB
 have HTY := Lib.hid (contr_isT HR.out IVN.out IVB.out op)
 have HPY : Hid ((keepL (joinL op BO) op).Perm op) := Lib.hid ((List.perm_ext_iff_of_nodup ((IVN.out.sub.join IVB.out.sub).keep op).nodup HN.out.sub.nodup).2 fun x => by rw [mem_keepL, mem_joinL]; exact ⟨fun h => h.2, fun h => ⟨.inl h, h⟩⟩)
 obtain ⟨YL, hYL⟩ : ∃ q, keepL (joinL op BO) op = q := ⟨_, rfl⟩
 obtain ⟨YX, hYX⟩ : ∃ q, contrXs HR.out dm12 op BO op VN VB = q := ⟨_, rfl⟩
 rw [hYL, hYX] at HJV HTY
 rw [hYL] at HPY
 have HYL := Lib.hid hYL; have HYX := Lib.hid hYX; clear hYL hYX
 have HTX := Lib.hid (netXs_isT HR.out HN.out)
 obtain ⟨RX, hRX⟩ : ∃ q, netXs HR.out dimOf ts op = q := ⟨_, rfl⟩
 rw [hRX] at HTX
 have HRX := Lib.hid hRX; clear hRX
 have HTL := Lib.hid (tenOf_low HN.out)
 have hbo12 : BO.length ≤ 12 := by rw [HBOL.out]; exact hmop12
 clear hBT hBO
 have q0_0 := hH.cl 0 0 rfl rfl; have q0_1 := hH.cl 0 1 rfl rfl; have q0_2 := hH.cl 0 2 rfl rfl; have q0_3 := hH.cl 0 3 rfl rfl; have q0_4 := hH.cl 0 4 rfl rfl; have l0_ := hH.bl 0 rfl; have q3_0 := hH.cl 3 0 rfl rfl; have q3_1 := hH.cl 3 1 rfl rfl; have q3_2 := hH.cl 3 2 rfl rfl; have q3_3 := hH.cl 3 3 rfl rfl; have q3_4 := hH.cl 3 4 rfl rfl; have l3_ := hH.bl 3 rfl; have c_kr_0 := hH.ext.cell kr_0; have c_kr_1 := hH.ext.cell kr_1; have c_kr_2 := hH.ext.cell kr_2
 have c_kr_l := Nat.lt_of_lt_of_le kr_l hH.ext.size
 go_wp2_with fail
 clear q0_0 q0_1 q0_2 q0_3 q0_4 l0_ q3_0 q3_1 q3_2 q3_3 q3_4 l3_ c_kr_0 c_kr_1 c_kr_2 c_kr_l
 go_loopw [7, 36] (fun va i wr => ∃ (j : Nat), j ≤ 6 ∧ i = .int .i64 (j : Int) ∧ Held wN wr [aB (wN.heap.size) 29 [.int .i64 k, .int .i64 p, .int .i64 n, .slice aV m cV, .slice aO op.length cO], aTs (.slice aW mB cW) csB (ms.map (tenOf dimOf)), aI (.slice aQ mop.length cQ) mop, aB (wn4.heap.size) 29 [.int .i64 k, .int .i64 p, .int .i64 n, .slice aW mB cW, .slice aQ mop.length cQ], aI (.slice (some ⟨wa1.heap.size, 0, none⟩) 6 6) [0, 1, 2, 3, 4, 5], aI va ((U6.take j).map AW)]) (fun va i wr => 6 - (RowKit.intOf i).toNat)
 case atStart => exact ⟨0, Nat.zero_le _, rfl, hH⟩
 case round =>
  clear hH
  obtain ⟨j, hj, rfl, hH⟩ := hrel
  obtain ⟨wq, rfl⟩ : ∃ q, q = wr := ⟨wr, rfl⟩
  obtain ⟨NJ, hNJ⟩ : ∃ q, (U6.take j).map AW = q := ⟨_, rfl⟩
  have HNL : Hid (NJ.length = j) := Lib.hid (by rw [← hNJ, List.length_map, List.length_take]; show min j 6 = j; omega)
  rw [hNJ] at hH
  have HNJ := Lib.hid hNJ; clear hNJ
  obtain ⟨an, cn, rfl⟩ := (hH.own (k := 5) rfl).shape1 j HNL.out
  by_cases hlt : j < 6
  ·
   obtain ⟨bA, oA, x, hVa, hcx, hx, _⟩ := (hH.ints (k := 4) rfl).get (i := j) hlt
   cases hVa
   rw [Nat.zero_add] at hcx
   have hxj : x = (j : Int) := by have h := U6_get hlt; rw [show U6[j]? = some x from hx] at h; exact Option.some.inj h
   subst hxj
   have HNS : Hid ((U6.take (j + 1)).map AW = NJ ++ [AW (j : Int)]) := Lib.hid (by rw [List.take_add_one, U6_get hlt, List.map_append, HNJ.out]; rfl)
   clear hx
   have q0_0 := hH.cl 0 0 rfl rfl; have q0_1 := hH.cl 0 1 rfl rfl; have q0_2 := hH.cl 0 2 rfl rfl; have q0_3 := hH.cl 0 3 rfl rfl; have q0_4 := hH.cl 0 4 rfl rfl; have l0_ := hH.bl 0 rfl; have q3_0 := hH.cl 3 0 rfl rfl; have q3_1 := hH.cl 3 1 rfl rfl; have q3_2 := hH.cl 3 2 rfl rfl; have q3_3 := hH.cl 3 3 rfl rfl; have q3_4 := hH.cl 3 4 rfl rfl; have l3_ := hH.bl 3 rfl; have c_kr_0 := hH.ext.cell kr_0; have c_kr_1 := hH.ext.cell kr_1; have c_kr_2 := hH.ext.cell kr_2
   have c_kr_l := Nat.lt_of_lt_of_le kr_l hH.ext.size
   go_wp2_with fail
   clear q0_0 q0_1 q0_2 q0_3 q0_4 l0_ q3_0 q3_1 q3_2 q3_3 q3_4 l3_ c_kr_0 c_kr_1 c_kr_2 c_kr_l
   refine (lawsInJ_any _ op (j : Int) _ (hO.ext hH.ext)).mono ?_; rintro e3 w3 ⟨rfl, rfl⟩
   have hadd : IntKind.i64.wrap (20 + (j : Int)) = 20 + (j : Int) := by rw [IntKind.wrap_i64]; omega
   by_cases ho1 : hasL op (j : Int) = true
   ·
    have HO1 := Lib.hid ho1; rw [ho1]; clear ho1
    have q0_0 := hH.cl 0 0 rfl rfl; have q0_1 := hH.cl 0 1 rfl rfl; have q0_2 := hH.cl 0 2 rfl rfl; have q0_3 := hH.cl 0 3 rfl rfl; have q0_4 := hH.cl 0 4 rfl rfl; have l0_ := hH.bl 0 rfl; have q3_0 := hH.cl 3 0 rfl rfl; have q3_1 := hH.cl 3 1 rfl rfl; have q3_2 := hH.cl 3 2 rfl rfl; have q3_3 := hH.cl 3 3 rfl rfl; have q3_4 := hH.cl 3 4 rfl rfl; have l3_ := hH.bl 3 rfl; have c_kr_0 := hH.ext.cell kr_0; have c_kr_1 := hH.ext.cell kr_1; have c_kr_2 := hH.ext.cell kr_2
    have c_kr_l := Nat.lt_of_lt_of_le kr_l hH.ext.size
    go_wp2_with fail
    clear q0_0 q0_1 q0_2 q0_3 q0_4 l0_ q3_0 q3_1 q3_2 q3_3 q3_4 l3_ c_kr_0 c_kr_1 c_kr_2 c_kr_l
    refine (lawsInJ_any _ mop (j : Int) _ (hH.ints (k := 2) rfl)).mono ?_; rintro e4 w4 ⟨rfl, rfl⟩
    by_cases ho2 : hasL mop (j : Int) = true
    ·
     have HO2 := Lib.hid ho2; rw [ho2]; clear ho2
     have HNV : Hid (AW (j : Int) = (j : Int)) := Lib.hid (by rw [HAWD.out]; exact if_pos ⟨HO1.out, HO2.out⟩)
     have q0_0 := hH.cl 0 0 rfl rfl; have q0_1 := hH.cl 0 1 rfl rfl; have q0_2 := hH.cl 0 2 rfl rfl; have q0_3 := hH.cl 0 3 rfl rfl; have q0_4 := hH.cl 0 4 rfl rfl; have l0_ := hH.bl 0 rfl; have q3_0 := hH.cl 3 0 rfl rfl; have q3_1 := hH.cl 3 1 rfl rfl; have q3_2 := hH.cl 3 2 rfl rfl; have q3_3 := hH.cl 3 3 rfl rfl; have q3_4 := hH.cl 3 4 rfl rfl; have l3_ := hH.bl 3 rfl; have c_kr_0 := hH.ext.cell kr_0; have c_kr_1 := hH.ext.cell kr_1; have c_kr_2 := hH.ext.cell kr_2
     have c_kr_l := Nat.lt_of_lt_of_le kr_l hH.ext.size
     go_wp2_with (at_builtin; refine wpList_app _ rfl _ _ 27 rfl _ _ rfl rfl _ (run_push _ _ wN.heap.size _ NJ ((j : Int)) (hH.own (k := 5) rfl) (by rw [HNL.out]; omega) hH.size) ?_; rintro v6 w6 ⟨o6, g6, n6⟩)
     have hX := hH.pushed (k := 5) rfl o6 g6 n6
     go_roundw
     case rel => exact ⟨j + 1, by omega, by go_num, by rw [HNS.out, HNV.out]; exact hX⟩
     case measure => simp [RowKit.intOf]; omega
    ·
     have HO2 := Lib.hid ho2; rw [eq_false_of_ne_true ho2]; clear ho2
     have HNV : Hid (AW (j : Int) = 20 + (j : Int)) := Lib.hid (by rw [HAWD.out]; exact if_neg fun h => HO2.out h.2)
     have q0_0 := hH.cl 0 0 rfl rfl; have q0_1 := hH.cl 0 1 rfl rfl; have q0_2 := hH.cl 0 2 rfl rfl; have q0_3 := hH.cl 0 3 rfl rfl; have q0_4 := hH.cl 0 4 rfl rfl; have l0_ := hH.bl 0 rfl; have q3_0 := hH.cl 3 0 rfl rfl; have q3_1 := hH.cl 3 1 rfl rfl; have q3_2 := hH.cl 3 2 rfl rfl; have q3_3 := hH.cl 3 3 rfl rfl; have q3_4 := hH.cl 3 4 rfl rfl; have l3_ := hH.bl 3 rfl; have c_kr_0 := hH.ext.cell kr_0; have c_kr_1 := hH.ext.cell kr_1; have c_kr_2 := hH.ext.cell kr_2
     have c_kr_l := Nat.lt_of_lt_of_le kr_l hH.ext.size
     go_wp2_with (at_builtin; refine wpList_app _ rfl _ _ 27 rfl _ _ rfl rfl _ (run_push _ _ wN.heap.size _ NJ (20 + (j : Int)) (hH.own (k := 5) rfl) (by rw [HNL.out]; omega) hH.size) ?_; rintro v6 w6 ⟨o6, g6, n6⟩)
     have hX := hH.pushed (k := 5) rfl o6 g6 n6
     go_roundw
     case rel => exact ⟨j + 1, by omega, by go_num, by rw [HNS.out, HNV.out]; exact hX⟩
     case measure => simp [RowKit.intOf]; omega
   ·
    have HO1 := Lib.hid ho1; rw [eq_false_of_ne_true ho1]; clear ho1
    have HNV : Hid (AW (j : Int) = 20 + (j : Int)) := Lib.hid (by rw [HAWD.out]; exact if_neg fun h => HO1.out h.1)
    have q0_0 := hH.cl 0 0 rfl rfl; have q0_1 := hH.cl 0 1 rfl rfl; have q0_2 := hH.cl 0 2 rfl rfl; have q0_3 := hH.cl 0 3 rfl rfl; have q0_4 := hH.cl 0 4 rfl rfl; have l0_ := hH.bl 0 rfl; have q3_0 := hH.cl 3 0 rfl rfl; have q3_1 := hH.cl 3 1 rfl rfl; have q3_2 := hH.cl 3 2 rfl rfl; have q3_3 := hH.cl 3 3 rfl rfl; have q3_4 := hH.cl 3 4 rfl rfl; have l3_ := hH.bl 3 rfl; have c_kr_0 := hH.ext.cell kr_0; have c_kr_1 := hH.ext.cell kr_1; have c_kr_2 := hH.ext.cell kr_2
    have c_kr_l := Nat.lt_of_lt_of_le kr_l hH.ext.size
    go_wp2_with (at_builtin; refine wpList_app _ rfl _ _ 27 rfl _ _ rfl rfl _ (run_push _ _ wN.heap.size _ NJ (20 + (j : Int)) (hH.own (k := 5) rfl) (by rw [HNL.out]; omega) hH.size) ?_; rintro v6 w6 ⟨o6, g6, n6⟩)
    have hX := hH.pushed (k := 5) rfl o6 g6 n6
    go_roundw
    case rel => exact ⟨j + 1, by omega, by go_num, by rw [HNS.out, HNV.out]; exact hX⟩
    case measure => simp [RowKit.intOf]; omega
  ·
   have hje : j = 6 := by omega
   subst hje
   have hNA : NJ = AL := by rw [← HNJ.out, ← HAL.out]; rfl
   subst hNA
   have q0_0 := hH.cl 0 0 rfl rfl; have q0_1 := hH.cl 0 1 rfl rfl; have q0_2 := hH.cl 0 2 rfl rfl; have q0_3 := hH.cl 0 3 rfl rfl; have q0_4 := hH.cl 0 4 rfl rfl; have l0_ := hH.bl 0 rfl; have q3_0 := hH.cl 3 0 rfl rfl; have q3_1 := hH.cl 3 1 rfl rfl; have q3_2 := hH.cl 3 2 rfl rfl; have q3_3 := hH.cl 3 3 rfl rfl; have q3_4 := hH.cl 3 4 rfl rfl; have l3_ := hH.bl 3 rfl; have c_kr_0 := hH.ext.cell kr_0; have c_kr_1 := hH.ext.cell kr_1; have c_kr_2 := hH.ext.cell kr_2
   have c_kr_l := Nat.lt_of_lt_of_le kr_l hH.ext.size
   go_wp2_with fail
   clear q0_0 q0_1 q0_2 q0_3 q0_4 l0_ q3_0 q3_1 q3_2 q3_3 q3_4 l3_ c_kr_0 c_kr_1 c_kr_2 c_kr_l
   refine (relabelNetwork_any HR.out HNB.out _ _ _ (hH.tensS (k := 1) rfl) (hH.ints (k := 2) rfl) HFG.out HREN.out _ _ (show IntS _ _ U6 from hH.ints (k := 4) rfl) (hH.ints (k := 5) rfl)).mono ?_; rintro ewn8 wn8 ⟨tvb, ovb, csb, rfl, hJ⟩
   rw [HBT.out, HBO.out] at hJ
   obtain ⟨aBO, cBO, rfl⟩ := (hJ.own (k := 1) rfl).shape1 BO.length rfl
   obtain ⟨aBT, cBT, hvb, _, _⟩ := (hJ.tensS (k := 0) rfl).val
   rw [List.length_map, HBL.out] at hvb
   subst hvb
   replace hH : Held wN wn8 [aB (wN.heap.size) 29 [.int .i64 k, .int .i64 p, .int .i64 n, .slice aV m cV, .slice aO op.length cO], aTs (.slice aW mB cW) csB (ms.map (tenOf dimOf)), aI (.slice aQ mop.length cQ) mop, aB (wn4.heap.size) 29 [.int .i64 k, .int .i64 p, .int .i64 n, .slice aW mB cW, .slice aQ mop.length cQ], aI (.slice (some ⟨wa1.heap.size, 0, none⟩) 6 6) [0, 1, 2, 3, 4, 5], aI (.slice an 6 cn) NJ, aTs (.slice aBT mB cBT) csb (BT.map (tenOf dm12)), aI (.slice aBO BO.length cBO) BO] := hH.join hJ (fun q hq => by cases hq)
   clear hJ
   have q0_0 := hH.cl 0 0 rfl rfl; have q0_1 := hH.cl 0 1 rfl rfl; have q0_2 := hH.cl 0 2 rfl rfl; have q0_3 := hH.cl 0 3 rfl rfl; have q0_4 := hH.cl 0 4 rfl rfl; have l0_ := hH.bl 0 rfl; have q3_0 := hH.cl 3 0 rfl rfl; have q3_1 := hH.cl 3 1 rfl rfl; have q3_2 := hH.cl 3 2 rfl rfl; have q3_3 := hH.cl 3 3 rfl rfl; have q3_4 := hH.cl 3 4 rfl rfl; have l3_ := hH.bl 3 rfl; have c_kr_0 := hH.ext.cell kr_0; have c_kr_1 := hH.ext.cell kr_1; have c_kr_2 := hH.ext.cell kr_2
   have c_kr_l := Nat.lt_of_lt_of_le kr_l hH.ext.size
   go_upto_region 16 with fail
   clear q0_0 q0_1 q0_2 q0_3 q0_4 l0_ q3_0 q3_1 q3_2 q3_3 q3_4 l3_ c_kr_0 c_kr_1 c_kr_2 c_kr_l
   have hB : Held wN (wn8.alloc (.cells #[.int .i64 k, .int .i64 p, .int .i64 n, .slice aBT mB cBT, .slice aBO BO.length cBO] 29)) [aB (wN.heap.size) 29 [.int .i64 k, .int .i64 p, .int .i64 n, .slice aV m cV, .slice aO op.length cO], aTs (.slice aW mB cW) csB (ms.map (tenOf dimOf)), aI (.slice aQ mop.length cQ) mop, aB (wn4.heap.size) 29 [.int .i64 k, .int .i64 p, .int .i64 n, .slice aW mB cW, .slice aQ mop.length cQ], aI (.slice (some ⟨wa1.heap.size, 0, none⟩) 6 6) [0, 1, 2, 3, 4, 5], aI (.slice an 6 cn) NJ, aTs (.slice aBT mB cBT) csb (BT.map (tenOf dm12)), aI (.slice aBO BO.length cBO) BO, aB (wn8.heap.size) 29 [.int .i64 k, .int .i64 p, .int .i64 n, .slice aBT mB cBT, .slice aBO BO.length cBO]] := by
    have h := (hH.mores 1).addB 8 #[.int .i64 k, .int .i64 p, .int .i64 n, .slice aBT mB cBT, .slice aBO BO.length cBO] 29
    exact h
   have hsz : (wn8.alloc (.cells #[.int .i64 k, .int .i64 p, .int .i64 n, .slice aBT mB cBT, .slice aBO BO.length cBO] 29)).heap.size = wn8.heap.size + 1 := by simp
   generalize wn8.alloc (.cells #[.int .i64 k, .int .i64 p, .int .i64 n, .slice aBT mB cBT, .slice aBO BO.length cBO] 29) = wn9 at hB hsz ⊢
   replace hH := hB; have HSZwn9 := Lib.hid hsz; clear hB hsz
   have q0_0 := hH.cl 0 0 rfl rfl; have q0_1 := hH.cl 0 1 rfl rfl; have q0_2 := hH.cl 0 2 rfl rfl; have q0_3 := hH.cl 0 3 rfl rfl; have q0_4 := hH.cl 0 4 rfl rfl; have l0_ := hH.bl 0 rfl; have q3_0 := hH.cl 3 0 rfl rfl; have q3_1 := hH.cl 3 1 rfl rfl; have q3_2 := hH.cl 3 2 rfl rfl; have q3_3 := hH.cl 3 3 rfl rfl; have q3_4 := hH.cl 3 4 rfl rfl; have l3_ := hH.bl 3 rfl; have q8_0 := hH.cl 8 0 rfl rfl; have q8_1 := hH.cl 8 1 rfl rfl; have q8_2 := hH.cl 8 2 rfl rfl; have q8_3 := hH.cl 8 3 rfl rfl; have q8_4 := hH.cl 8 4 rfl rfl; have l8_ := hH.bl 8 rfl; have c_kr_0 := hH.ext.cell kr_0; have c_kr_1 := hH.ext.cell kr_1; have c_kr_2 := hH.ext.cell kr_2
   have c_kr_l := Nat.lt_of_lt_of_le kr_l hH.ext.size
   go_wp2_with fail
   clear q0_0 q0_1 q0_2 q0_3 q0_4 l0_ q3_0 q3_1 q3_2 q3_3 q3_4 l3_ q8_0 q8_1 q8_2 q8_3 q8_4 l8_ c_kr_0 c_kr_1 c_kr_2 c_kr_l
   refine (joinNetworks_any HR.out HNW.out _ _ _ (by have h := hT0.ext hH.ext; rw [HTL.out] at h; exact h) (hO.ext hH.ext) HBN.out (by rw [HTC.out]; exact HJN.out) HCOM.out _ _ _ (hH.tensS (k := 6) rfl) (hH.ints (k := 7) rfl) (hO.ext hH.ext)).mono ?_; rintro ewn10 wn10 ⟨tvc, ovc, csc, rfl, hJ⟩
   rw [HTC.out] at hJ
   obtain ⟨aCO, cCO, rfl⟩ := (hJ.own (k := 1) rfl).shape1 op.length rfl
   obtain ⟨aC, cC, hvb, _, _⟩ := (hJ.tensS (k := 0) rfl).val
   rw [List.length_map, HMC.out] at hvb
   subst hvb
   replace hH : Held wN wn10 [aB (wN.heap.size) 29 [.int .i64 k, .int .i64 p, .int .i64 n, .slice aV m cV, .slice aO op.length cO], aTs (.slice aW mB cW) csB (ms.map (tenOf dimOf)), aI (.slice aQ mop.length cQ) mop, aB (wn4.heap.size) 29 [.int .i64 k, .int .i64 p, .int .i64 n, .slice aW mB cW, .slice aQ mop.length cQ], aI (.slice (some ⟨wa1.heap.size, 0, none⟩) 6 6) [0, 1, 2, 3, 4, 5], aI (.slice an 6 cn) NJ, aTs (.slice aBT mB cBT) csb (BT.map (tenOf dm12)), aI (.slice aBO BO.length cBO) BO, aB (wn8.heap.size) 29 [.int .i64 k, .int .i64 p, .int .i64 n, .slice aBT mB cBT, .slice aBO BO.length cBO], aTs (.slice aC mc cC) csc (TC.map (tenOf dm12)), aI (.slice aCO op.length cCO) op] := hH.join hJ (fun q hq => by cases hq)
   clear hJ
   have q0_0 := hH.cl 0 0 rfl rfl; have q0_1 := hH.cl 0 1 rfl rfl; have q0_2 := hH.cl 0 2 rfl rfl; have q0_3 := hH.cl 0 3 rfl rfl; have q0_4 := hH.cl 0 4 rfl rfl; have l0_ := hH.bl 0 rfl; have q3_0 := hH.cl 3 0 rfl rfl; have q3_1 := hH.cl 3 1 rfl rfl; have q3_2 := hH.cl 3 2 rfl rfl; have q3_3 := hH.cl 3 3 rfl rfl; have q3_4 := hH.cl 3 4 rfl rfl; have l3_ := hH.bl 3 rfl; have q8_0 := hH.cl 8 0 rfl rfl; have q8_1 := hH.cl 8 1 rfl rfl; have q8_2 := hH.cl 8 2 rfl rfl; have q8_3 := hH.cl 8 3 rfl rfl; have q8_4 := hH.cl 8 4 rfl rfl; have l8_ := hH.bl 8 rfl; have c_kr_0 := hH.ext.cell kr_0; have c_kr_1 := hH.ext.cell kr_1; have c_kr_2 := hH.ext.cell kr_2
   have c_kr_l := Nat.lt_of_lt_of_le kr_l hH.ext.size
   go_upto_region 17 with fail
   clear q0_0 q0_1 q0_2 q0_3 q0_4 l0_ q3_0 q3_1 q3_2 q3_3 q3_4 l3_ q8_0 q8_1 q8_2 q8_3 q8_4 l8_ c_kr_0 c_kr_1 c_kr_2 c_kr_l
   have hB : Held wN (wn10.alloc (.cells #[.int .i64 k, .int .i64 p, .int .i64 n, .slice aC mc cC, .slice aCO op.length cCO] 29)) [aB (wN.heap.size) 29 [.int .i64 k, .int .i64 p, .int .i64 n, .slice aV m cV, .slice aO op.length cO], aTs (.slice aW mB cW) csB (ms.map (tenOf dimOf)), aI (.slice aQ mop.length cQ) mop, aB (wn4.heap.size) 29 [.int .i64 k, .int .i64 p, .int .i64 n, .slice aW mB cW, .slice aQ mop.length cQ], aI (.slice (some ⟨wa1.heap.size, 0, none⟩) 6 6) [0, 1, 2, 3, 4, 5], aI (.slice an 6 cn) NJ, aTs (.slice aBT mB cBT) csb (BT.map (tenOf dm12)), aI (.slice aBO BO.length cBO) BO, aB (wn8.heap.size) 29 [.int .i64 k, .int .i64 p, .int .i64 n, .slice aBT mB cBT, .slice aBO BO.length cBO], aTs (.slice aC mc cC) csc (TC.map (tenOf dm12)), aI (.slice aCO op.length cCO) op, aB (wn10.heap.size) 29 [.int .i64 k, .int .i64 p, .int .i64 n, .slice aC mc cC, .slice aCO op.length cCO]] := by
    have h := (hH.mores 1).addB 11 #[.int .i64 k, .int .i64 p, .int .i64 n, .slice aC mc cC, .slice aCO op.length cCO] 29
    exact h
   have hsz : (wn10.alloc (.cells #[.int .i64 k, .int .i64 p, .int .i64 n, .slice aC mc cC, .slice aCO op.length cCO] 29)).heap.size = wn10.heap.size + 1 := by simp
   generalize wn10.alloc (.cells #[.int .i64 k, .int .i64 p, .int .i64 n, .slice aC mc cC, .slice aCO op.length cCO] 29) = wn11 at hB hsz ⊢
   replace hH := hB; have HSZwn11 := Lib.hid hsz; clear hB hsz
   have q0_0 := hH.cl 0 0 rfl rfl; have q0_1 := hH.cl 0 1 rfl rfl; have q0_2 := hH.cl 0 2 rfl rfl; have q0_3 := hH.cl 0 3 rfl rfl; have q0_4 := hH.cl 0 4 rfl rfl; have l0_ := hH.bl 0 rfl; have q3_0 := hH.cl 3 0 rfl rfl; have q3_1 := hH.cl 3 1 rfl rfl; have q3_2 := hH.cl 3 2 rfl rfl; have q3_3 := hH.cl 3 3 rfl rfl; have q3_4 := hH.cl 3 4 rfl rfl; have l3_ := hH.bl 3 rfl; have q8_0 := hH.cl 8 0 rfl rfl; have q8_1 := hH.cl 8 1 rfl rfl; have q8_2 := hH.cl 8 2 rfl rfl; have q8_3 := hH.cl 8 3 rfl rfl; have q8_4 := hH.cl 8 4 rfl rfl; have l8_ := hH.bl 8 rfl; have q11_0 := hH.cl 11 0 rfl rfl; have q11_1 := hH.cl 11 1 rfl rfl; have q11_2 := hH.cl 11 2 rfl rfl; have q11_3 := hH.cl 11 3 rfl rfl; have q11_4 := hH.cl 11 4 rfl rfl; have l11_ := hH.bl 11 rfl; have c_kr_0 := hH.ext.cell kr_0; have c_kr_1 := hH.ext.cell kr_1; have c_kr_2 := hH.ext.cell kr_2
   have c_kr_l := Nat.lt_of_lt_of_le kr_l hH.ext.size
   go_wp2_with fail
   clear q0_0 q0_1 q0_2 q0_3 q0_4 l0_ q3_0 q3_1 q3_2 q3_3 q3_4 l3_ q8_0 q8_1 q8_2 q8_3 q8_4 l8_ q11_0 q11_1 q11_2 q11_3 q11_4 l11_ c_kr_0 c_kr_1 c_kr_2 c_kr_l
   refine (makeElem_any _ l 120 k p n HR.out _ (hC.ext hH.ext) (by omega)).mono ?_; rintro ewn12 wn12 ⟨vx, x, rfl, ox, hxo, hwn12⟩
   obtain ⟨xe, hxe⟩ : ∃ xe : El k p n, xe.1 = x := ⟨⟨x, hxo⟩, rfl⟩
   subst hxe
   clear hxo
   obtain ⟨nx, hnx⟩ : ∃ q, xe.1.length = q := ⟨_, rfl⟩
   obtain ⟨ax, cx, rfl⟩ := ox.shape1 nx hnx
   clear hnx
   replace hH : Held wN wn12 [aB (wN.heap.size) 29 [.int .i64 k, .int .i64 p, .int .i64 n, .slice aV m cV, .slice aO op.length cO], aTs (.slice aW mB cW) csB (ms.map (tenOf dimOf)), aI (.slice aQ mop.length cQ) mop, aB (wn4.heap.size) 29 [.int .i64 k, .int .i64 p, .int .i64 n, .slice aW mB cW, .slice aQ mop.length cQ], aI (.slice (some ⟨wa1.heap.size, 0, none⟩) 6 6) [0, 1, 2, 3, 4, 5], aI (.slice an 6 cn) NJ, aTs (.slice aBT mB cBT) csb (BT.map (tenOf dm12)), aI (.slice aBO BO.length cBO) BO, aB (wn8.heap.size) 29 [.int .i64 k, .int .i64 p, .int .i64 n, .slice aBT mB cBT, .slice aBO BO.length cBO], aTs (.slice aC mc cC) csc (TC.map (tenOf dm12)), aI (.slice aCO op.length cCO) op, aB (wn10.heap.size) 29 [.int .i64 k, .int .i64 p, .int .i64 n, .slice aC mc cC, .slice aCO op.length cCO], aI (.slice ax nx cx) xe.1] := (hH.mores 1).addI 12 hwn12 ox (Nat.le_refl _)
   clear hwn12
   have HND := Lib.hid (scale_isN HN.out xe (by have h := HM.out; omega))
   have HSV := Lib.hid (net_scale HR.out HN.out xe)
   rw [HRX.out] at HSV
   obtain ⟨TD, hTD⟩ : ∃ q, ts ++ [([], [xe])] = q := ⟨_, rfl⟩
   rw [hTD] at HND HSV
   have HTD := Lib.hid hTD; clear hTD
   obtain ⟨md, hmd⟩ : ∃ q, TD.length = q := ⟨_, rfl⟩
   have HMD := Lib.hid hmd; clear hmd
   obtain ⟨SV, hSV⟩ : ∃ q, scaleXs HR.out xe RX = q := ⟨_, rfl⟩
   rw [hSV] at HSV
   have HSVE := Lib.hid hSV; clear hSV
   have q0_0 := hH.cl 0 0 rfl rfl; have q0_1 := hH.cl 0 1 rfl rfl; have q0_2 := hH.cl 0 2 rfl rfl; have q0_3 := hH.cl 0 3 rfl rfl; have q0_4 := hH.cl 0 4 rfl rfl; have l0_ := hH.bl 0 rfl; have q3_0 := hH.cl 3 0 rfl rfl; have q3_1 := hH.cl 3 1 rfl rfl; have q3_2 := hH.cl 3 2 rfl rfl; have q3_3 := hH.cl 3 3 rfl rfl; have q3_4 := hH.cl 3 4 rfl rfl; have l3_ := hH.bl 3 rfl; have q8_0 := hH.cl 8 0 rfl rfl; have q8_1 := hH.cl 8 1 rfl rfl; have q8_2 := hH.cl 8 2 rfl rfl; have q8_3 := hH.cl 8 3 rfl rfl; have q8_4 := hH.cl 8 4 rfl rfl; have l8_ := hH.bl 8 rfl; have q11_0 := hH.cl 11 0 rfl rfl; have q11_1 := hH.cl 11 1 rfl rfl; have q11_2 := hH.cl 11 2 rfl rfl; have q11_3 := hH.cl 11 3 rfl rfl; have q11_4 := hH.cl 11 4 rfl rfl; have l11_ := hH.bl 11 rfl; have c_kr_0 := hH.ext.cell kr_0; have c_kr_1 := hH.ext.cell kr_1; have c_kr_2 := hH.ext.cell kr_2
   have c_kr_l := Nat.lt_of_lt_of_le kr_l hH.ext.size
   go_wp2_with fail
   clear q0_0 q0_1 q0_2 q0_3 q0_4 l0_ q3_0 q3_1 q3_2 q3_3 q3_4 l3_ q8_0 q8_1 q8_2 q8_3 q8_4 l8_ q11_0 q11_1 q11_2 q11_3 q11_4 l11_ c_kr_0 c_kr_1 c_kr_2 c_kr_l
   refine (scaleNetwork_any HR.out HN.out _ _ _ (hT0.ext hH.ext) (hO.ext hH.ext) xe (by have h := HM.out; omega) _ (hH.ints (k := 12) rfl)).mono ?_; rintro ewn13 wn13 ⟨tvd, ovd, csd, rfl, hJ⟩
   rw [HTD.out] at hJ
   obtain ⟨aDO, cDO, rfl⟩ := (hJ.own (k := 1) rfl).shape1 op.length rfl
   obtain ⟨aD, cD, hvb, _, _⟩ := (hJ.tensS (k := 0) rfl).val
   rw [List.length_map, HMD.out] at hvb
   subst hvb
   replace hH : Held wN wn13 [aB (wN.heap.size) 29 [.int .i64 k, .int .i64 p, .int .i64 n, .slice aV m cV, .slice aO op.length cO], aTs (.slice aW mB cW) csB (ms.map (tenOf dimOf)), aI (.slice aQ mop.length cQ) mop, aB (wn4.heap.size) 29 [.int .i64 k, .int .i64 p, .int .i64 n, .slice aW mB cW, .slice aQ mop.length cQ], aI (.slice (some ⟨wa1.heap.size, 0, none⟩) 6 6) [0, 1, 2, 3, 4, 5], aI (.slice an 6 cn) NJ, aTs (.slice aBT mB cBT) csb (BT.map (tenOf dm12)), aI (.slice aBO BO.length cBO) BO, aB (wn8.heap.size) 29 [.int .i64 k, .int .i64 p, .int .i64 n, .slice aBT mB cBT, .slice aBO BO.length cBO], aTs (.slice aC mc cC) csc (TC.map (tenOf dm12)), aI (.slice aCO op.length cCO) op, aB (wn10.heap.size) 29 [.int .i64 k, .int .i64 p, .int .i64 n, .slice aC mc cC, .slice aCO op.length cCO], aI (.slice ax nx cx) xe.1, aTs (.slice aD md cD) csd (TD.map (tenOf dimOf)), aI (.slice aDO op.length cDO) op] := hH.join hJ (fun q hq => by cases hq)
   clear hJ
   have q0_0 := hH.cl 0 0 rfl rfl; have q0_1 := hH.cl 0 1 rfl rfl; have q0_2 := hH.cl 0 2 rfl rfl; have q0_3 := hH.cl 0 3 rfl rfl; have q0_4 := hH.cl 0 4 rfl rfl; have l0_ := hH.bl 0 rfl; have q3_0 := hH.cl 3 0 rfl rfl; have q3_1 := hH.cl 3 1 rfl rfl; have q3_2 := hH.cl 3 2 rfl rfl; have q3_3 := hH.cl 3 3 rfl rfl; have q3_4 := hH.cl 3 4 rfl rfl; have l3_ := hH.bl 3 rfl; have q8_0 := hH.cl 8 0 rfl rfl; have q8_1 := hH.cl 8 1 rfl rfl; have q8_2 := hH.cl 8 2 rfl rfl; have q8_3 := hH.cl 8 3 rfl rfl; have q8_4 := hH.cl 8 4 rfl rfl; have l8_ := hH.bl 8 rfl; have q11_0 := hH.cl 11 0 rfl rfl; have q11_1 := hH.cl 11 1 rfl rfl; have q11_2 := hH.cl 11 2 rfl rfl; have q11_3 := hH.cl 11 3 rfl rfl; have q11_4 := hH.cl 11 4 rfl rfl; have l11_ := hH.bl 11 rfl; have c_kr_0 := hH.ext.cell kr_0; have c_kr_1 := hH.ext.cell kr_1; have c_kr_2 := hH.ext.cell kr_2
   have c_kr_l := Nat.lt_of_lt_of_le kr_l hH.ext.size
   go_upto_region 19 with fail
   clear q0_0 q0_1 q0_2 q0_3 q0_4 l0_ q3_0 q3_1 q3_2 q3_3 q3_4 l3_ q8_0 q8_1 q8_2 q8_3 q8_4 l8_ q11_0 q11_1 q11_2 q11_3 q11_4 l11_ c_kr_0 c_kr_1 c_kr_2 c_kr_l
   have hB : Held wN (wn13.alloc (.cells #[.int .i64 k, .int .i64 p, .int .i64 n, .slice aD md cD, .slice aDO op.length cDO] 29)) [aB (wN.heap.size) 29 [.int .i64 k, .int .i64 p, .int .i64 n, .slice aV m cV, .slice aO op.length cO], aTs (.slice aW mB cW) csB (ms.map (tenOf dimOf)), aI (.slice aQ mop.length cQ) mop, aB (wn4.heap.size) 29 [.int .i64 k, .int .i64 p, .int .i64 n, .slice aW mB cW, .slice aQ mop.length cQ], aI (.slice (some ⟨wa1.heap.size, 0, none⟩) 6 6) [0, 1, 2, 3, 4, 5], aI (.slice an 6 cn) NJ, aTs (.slice aBT mB cBT) csb (BT.map (tenOf dm12)), aI (.slice aBO BO.length cBO) BO, aB (wn8.heap.size) 29 [.int .i64 k, .int .i64 p, .int .i64 n, .slice aBT mB cBT, .slice aBO BO.length cBO], aTs (.slice aC mc cC) csc (TC.map (tenOf dm12)), aI (.slice aCO op.length cCO) op, aB (wn10.heap.size) 29 [.int .i64 k, .int .i64 p, .int .i64 n, .slice aC mc cC, .slice aCO op.length cCO], aI (.slice ax nx cx) xe.1, aTs (.slice aD md cD) csd (TD.map (tenOf dimOf)), aI (.slice aDO op.length cDO) op, aB (wn13.heap.size) 29 [.int .i64 k, .int .i64 p, .int .i64 n, .slice aD md cD, .slice aDO op.length cDO]] := by
    have h := (hH.mores 1).addB 15 #[.int .i64 k, .int .i64 p, .int .i64 n, .slice aD md cD, .slice aDO op.length cDO] 29
    exact h
   have hsz : (wn13.alloc (.cells #[.int .i64 k, .int .i64 p, .int .i64 n, .slice aD md cD, .slice aDO op.length cDO] 29)).heap.size = wn13.heap.size + 1 := by simp
   generalize wn13.alloc (.cells #[.int .i64 k, .int .i64 p, .int .i64 n, .slice aD md cD, .slice aDO op.length cDO] 29) = wn14 at hB hsz ⊢
   replace hH := hB; have HSZwn14 := Lib.hid hsz; clear hB hsz
   obtain ⟨wz, rfl⟩ : ∃ q, q = wn14 := ⟨wn14, rfl⟩
   replace hH := hH.mores 4
   replace hH : Held wN wz [aB (wN.heap.size) 29 [.int .i64 k, .int .i64 p, .int .i64 n, .slice aV m cV, .slice aO op.length cO], aTs (.slice aW mB cW) csB (ms.map (tenOf dimOf)), aI (.slice aQ mop.length cQ) mop, aB (wn4.heap.size) 29 [.int .i64 k, .int .i64 p, .int .i64 n, .slice aW mB cW, .slice aQ mop.length cQ], aI (.slice (some ⟨wa1.heap.size, 0, none⟩) 6 6) [0, 1, 2, 3, 4, 5], aI (.slice an 6 cn) NJ, aTs (.slice aBT mB cBT) csb (BT.map (tenOf dm12)), aI (.slice aBO BO.length cBO) BO, aB (wn8.heap.size) 29 [.int .i64 k, .int .i64 p, .int .i64 n, .slice aBT mB cBT, .slice aBO BO.length cBO], aTs (.slice aC mc cC) csc (TC.map (tenOf dm12)), aI (.slice aCO op.length cCO) op, aB (wn10.heap.size) 29 [.int .i64 k, .int .i64 p, .int .i64 n, .slice aC mc cC, .slice aCO op.length cCO], aI (.slice ax nx cx) xe.1, aTs (.slice aD md cD) csd (TD.map (tenOf dimOf)), aI (.slice aDO op.length cDO) op, aB (wn13.heap.size) 29 [.int .i64 k, .int .i64 p, .int .i64 n, .slice aD md cD, .slice aDO op.length cDO], emp, emp, emp, emp] := hH
   refine wp_region_steps ?Fa (fun b t wx => Held wN wx [aB (wN.heap.size) 29 [.int .i64 k, .int .i64 p, .int .i64 n, .slice aV m cV, .slice aO op.length cO], aTs (.slice aW mB cW) csB (ms.map (tenOf dimOf)), aI (.slice aQ mop.length cQ) mop, aB (wn4.heap.size) 29 [.int .i64 k, .int .i64 p, .int .i64 n, .slice aW mB cW, .slice aQ mop.length cQ], aI (.slice (some ⟨wa1.heap.size, 0, none⟩) 6 6) [0, 1, 2, 3, 4, 5], aI (.slice an 6 cn) NJ, aTs (.slice aBT mB cBT) csb (BT.map (tenOf dm12)), aI (.slice aBO BO.length cBO) BO, aB (wn8.heap.size) 29 [.int .i64 k, .int .i64 p, .int .i64 n, .slice aBT mB cBT, .slice aBO BO.length cBO], aTs (.slice aC mc cC) csc (TC.map (tenOf dm12)), aI (.slice aCO op.length cCO) op, aB (wn10.heap.size) 29 [.int .i64 k, .int .i64 p, .int .i64 n, .slice aC mc cC, .slice aCO op.length cCO], aI (.slice ax nx cx) xe.1, aTs (.slice aD md cD) csd (TD.map (tenOf dimOf)), aI (.slice aDO op.length cDO) op, aB (wn13.heap.size) 29 [.int .i64 k, .int .i64 p, .int .i64 n, .slice aD md cD, .slice aDO op.length cDO], (bif b 2 then aT (t 2) op (op.map dm12) (flat VN) else emp), (bif b 4 then aT (t 4) BO (BO.map dm12) (flat VB) else emp), (bif b 7 then aT (tup0 (t 7)) YL (YL.map dm12) (flat YX) else emp), (bif b 12 then aB (blkOf (t 11)) 32 (partsOf (t 9)) else (bif b 11 then aB (blkOf (t 11)) 32 [.slice none 0 0, .slice none 0 0, .slice none 0 0] else emp))] ∧ (b 0 = true → t 0 = .agg #[.int .i64 k, .int .i64 p, .int .i64 n]) ∧ (b 1 = true → t 1 = .agg #[.int .i64 k, .int .i64 p, .int .i64 n, .slice aV m cV, .slice aO op.length cO]) ∧ (b 2 = true → ∃ p1 n1 c1 p2 n2 c2 p3 n3 c3, t 2 = .agg #[.slice p1 n1 c1, .slice p2 n2 c2, .slice p3 n3 c3]) ∧ (b 3 = true → t 3 = .agg #[.int .i64 k, .int .i64 p, .int .i64 n, .slice aBT mB cBT, .slice aBO BO.length cBO]) ∧ (b 4 = true → ∃ p1 n1 c1 p2 n2 c2 p3 n3 c3, t 4 = .agg #[.slice p1 n1 c1, .slice p2 n2 c2, .slice p3 n3 c3]) ∧ (b 5 = true → t 5 = .pointer (some ⟨wN.heap.size, 4, none⟩)) ∧ (b 6 = true → t 6 = .slice aO op.length cO) ∧ (b 7 = true → ∃ p1 n1 c1 p2 n2 c2 p3 n3 c3, t 7 = .tuple #[.agg #[.slice p1 n1 c1, .slice p2 n2 c2, .slice p3 n3 c3], .bool true]) ∧ (b 8 = true → t 8 = t 7) ∧ (b 9 = true → t 9 = tup0 (t 7)) ∧ (b 10 = true → t 10 = .bool true) ∧ (b 11 = true → ∃ q, t 11 = .pointer (some ⟨q, 0, none⟩)) ∧ (b 13 = true → t 13 = .bool true)) ?hFa (by kernel_rfl) (by kernel_rfl) ?hJa ?hSa ?hEa
   (case hFa => intro t; simp only [putAll, Act.put, List.setIfInBounds_toArray, List.set_cons_zero, List.set_cons_succ, Nat.reduceAdd, Nat.zero_add]; exact rfl)
   case hJa => exact ⟨hH.grow ((Ext.refl _).drew), fun h => absurd h Bool.false_ne_true, fun h => absurd h Bool.false_ne_true, fun h => absurd h Bool.false_ne_true, fun h => absurd h Bool.false_ne_true, fun h => absurd h Bool.false_ne_true, fun h => absurd h Bool.false_ne_true, fun h => absurd h Bool.false_ne_true, fun h => absurd h Bool.false_ne_true, fun h => absurd h Bool.false_ne_true, fun h => absurd h Bool.false_ne_true, fun h => absurd h Bool.false_ne_true, fun h => absurd h Bool.false_ne_true, fun h => absurd h Bool.false_ne_true⟩
   case hSa => as_aux_lemma =>
     refine AllSteps.cons (j := 1) rfl (fun b t wx hJ hb hd hcl Kc hK => ?_) ?_
     · obtain ⟨hH, v0, v1, v2, v3, v4, v5, v6, v7, v8, v9, v10, v11, v13⟩ := hJ
       have c_kr_0 := hH.ext.cell kr_0; have c_kr_1 := hH.ext.cell kr_1; have c_kr_2 := hH.ext.cell kr_2
       go_simp
       refine hK.out _ ?_ _ ?_ ?_; rotate_left 2
       · rfl
       exact ⟨hH, fun _ => rfl, v1, v2, v3, v4, v5, v6, v7, v8, v9, v10, v11, v13⟩
     refine AllSteps.cons (j := 2) rfl (fun b t wx hJ hb hd hcl Kc hK => ?_) ?_
     · obtain ⟨hH, v0, v1, v2, v3, v4, v5, v6, v7, v8, v9, v10, v11, v13⟩ := hJ
       have c_kr_0 := hH.ext.cell kr_0; have c_kr_1 := hH.ext.cell kr_1; have c_kr_2 := hH.ext.cell kr_2; have q0_0 := hH.cl 0 0 rfl rfl; have q0_1 := hH.cl 0 1 rfl rfl; have q0_2 := hH.cl 0 2 rfl rfl; have q0_3 := hH.cl 0 3 rfl rfl; have q0_4 := hH.cl 0 4 rfl rfl
       go_simp
       refine hK.out _ ?_ _ ?_ ?_; rotate_left 2
       · rfl
       exact ⟨hH, v0, fun _ => rfl, v2, v3, v4, v5, v6, v7, v8, v9, v10, v11, v13⟩
     refine AllSteps.cons (j := 3) rfl (fun b t wx hJ hb hd hcl Kc hK => ?_) ?_
     · obtain ⟨hH, v0, v1, v2, v3, v4, v5, v6, v7, v8, v9, v10, v11, v13⟩ := hJ
       have d1 := hd.out 1 (by kernel_rfl); have r1 := v1 d1
       have hN := hH; (try simp only [hb, d1, cond_true, cond_false] at hN)
       go_simp
       go_at_call 37
       refine (worth_any HR.out HNW.out _ _ _ (by have h := hT0.ext hH.ext; rw [HTL.out] at h; exact h) (hO.ext hH.ext)).mono ?_; rintro e2 w2 ⟨u2, rfl, o2, h2⟩
       rw [HVN.out] at o2
       obtain ⟨pa1, na1, ca1, pa2, na2, ca2, pa3, na3, ca3, rfl⟩ := o2.shape
       (try go_simp)
       refine hK.out _ ?_ _ ?_ ?_; rotate_left 2
       · (try simp only [r1]); rfl
       exact ⟨by have hX := hN.addT 16 h2 o2 (Nat.le_refl _); simpa only [List.set_cons_zero, List.set_cons_succ, updB, updV, blkOf_mk, tup0_mk, partsOf3, Nat.reduceBEq, cond_true, cond_false, hb, d1, r1] using hX, v0, v1, fun _ => ⟨_, _, _, _, _, _, _, _, _, rfl⟩, v3, v4, v5, v6, v7, v8, v9, v10, v11, v13⟩
     refine AllSteps.cons (j := 4) rfl (fun b t wx hJ hb hd hcl Kc hK => ?_) ?_
     · obtain ⟨hH, v0, v1, v2, v3, v4, v5, v6, v7, v8, v9, v10, v11, v13⟩ := hJ
       have c_kr_0 := hH.ext.cell kr_0; have c_kr_1 := hH.ext.cell kr_1; have c_kr_2 := hH.ext.cell kr_2; have q8_0 := hH.cl 8 0 rfl rfl; have q8_1 := hH.cl 8 1 rfl rfl; have q8_2 := hH.cl 8 2 rfl rfl; have q8_3 := hH.cl 8 3 rfl rfl; have q8_4 := hH.cl 8 4 rfl rfl
       go_simp
       refine hK.out _ ?_ _ ?_ ?_; rotate_left 2
       · rfl
       exact ⟨hH, v0, v1, v2, fun _ => rfl, v4, v5, v6, v7, v8, v9, v10, v11, v13⟩
     refine AllSteps.cons (j := 5) rfl (fun b t wx hJ hb hd hcl Kc hK => ?_) ?_
     · obtain ⟨hH, v0, v1, v2, v3, v4, v5, v6, v7, v8, v9, v10, v11, v13⟩ := hJ
       have d2 := hd.out 2 (by kernel_rfl); have d3 := hd.out 3 (by kernel_rfl); have r2 := v2 d2; have r3 := v3 d3
       obtain ⟨p1_2, n1_2, c1_2, p2_2, n2_2, c2_2, p3_2, n3_2, c3_2, r2⟩ := r2
       have hN := hH; (try simp only [hb, d2, d3, cond_true, cond_false] at hN)
       go_simp
       go_at_call 37
       refine (worth_any HR.out HBN.out _ _ _ (hH.tensS (k := 6) rfl) (hH.ints (k := 7) rfl)).mono ?_; rintro e4 w4 ⟨u4, rfl, o4, h4⟩
       rw [HVB.out] at o4
       obtain ⟨pa1, na1, ca1, pa2, na2, ca2, pa3, na3, ca3, rfl⟩ := o4.shape
       (try go_simp)
       refine hK.out _ ?_ _ ?_ ?_; rotate_left 2
       · (try simp only [r2, r3]); rfl
       exact ⟨by have hX := hN.addT 17 h4 o4 (Nat.le_refl _); simpa only [List.set_cons_zero, List.set_cons_succ, updB, updV, blkOf_mk, tup0_mk, partsOf3, Nat.reduceBEq, cond_true, cond_false, hb, d2, d3, r2, r3] using hX, v0, v1, v2, v3, fun _ => ⟨_, _, _, _, _, _, _, _, _, rfl⟩, v5, v6, v7, v8, v9, v10, v11, v13⟩
     refine AllSteps.cons (j := 6) rfl (fun b t wx hJ hb hd hcl Kc hK => ?_) ?_
     · obtain ⟨hH, v0, v1, v2, v3, v4, v5, v6, v7, v8, v9, v10, v11, v13⟩ := hJ
       have c_kr_0 := hH.ext.cell kr_0; have c_kr_1 := hH.ext.cell kr_1; have c_kr_2 := hH.ext.cell kr_2
       go_simp
       refine hK.out _ ?_ _ ?_ ?_; rotate_left 2
       · rfl
       exact ⟨hH, v0, v1, v2, v3, v4, fun _ => rfl, v6, v7, v8, v9, v10, v11, v13⟩
     refine AllSteps.cons (j := 7) rfl (fun b t wx hJ hb hd hcl Kc hK => ?_) ?_
     · obtain ⟨hH, v0, v1, v2, v3, v4, v5, v6, v7, v8, v9, v10, v11, v13⟩ := hJ
       have d5 := hd.out 5 (by kernel_rfl); have r5 := v5 d5; have c_kr_0 := hH.ext.cell kr_0; have c_kr_1 := hH.ext.cell kr_1; have c_kr_2 := hH.ext.cell kr_2; have q0_4 := hH.cl 0 4 rfl rfl
       go_simp
       refine hK.out _ ?_ _ ?_ ?_; rotate_left 2
       · (try simp only [r5]); rfl
       exact ⟨hH, v0, v1, v2, v3, v4, v5, fun _ => rfl, v7, v8, v9, v10, v11, v13⟩
     refine AllSteps.cons (j := 8) rfl (fun b t wx hJ hb hd hcl Kc hK => ?_) ?_
     · obtain ⟨hH, v0, v1, v2, v3, v4, v5, v6, v7, v8, v9, v10, v11, v13⟩ := hJ
       have d0 := hd.out 0 (by kernel_rfl); have d2 := hd.out 2 (by kernel_rfl); have d4 := hd.out 4 (by kernel_rfl); have d6 := hd.out 6 (by kernel_rfl)
       have n8 : b 8 = false := Bool.eq_false_iff.2 fun h => absurd (hcl.out 8 7 (by kernel_rfl) (h)) (by rw [hb]; exact Bool.false_ne_true)
       have n9 : b 9 = false := Bool.eq_false_iff.2 fun h => absurd (hcl.out 8 7 (by kernel_rfl) (hcl.out 9 8 (by kernel_rfl) (h))) (by rw [hb]; exact Bool.false_ne_true)
       have r0 := v0 d0; have r2 := v2 d2; have r4 := v4 d4; have r6 := v6 d6
       obtain ⟨p1_2, n1_2, c1_2, p2_2, n2_2, c2_2, p3_2, n3_2, c3_2, r2⟩ := r2
       obtain ⟨p1_4, n1_4, c1_4, p2_4, n2_4, c2_4, p3_4, n3_4, c3_4, r4⟩ := r4
       have hN := hH; (try simp only [hb, d0, d2, d4, d6, n8, n9, cond_true, cond_false] at hN)
       go_simp
       go_at_call 47
       refine (contractPair_any HR.out IVN.out IVB.out op _ _ _ _ (by have h := hN.tens (k := 16) rfl; rw [r2] at h; exact h) (by have h := hN.tens (k := 17) rfl; rw [r4] at h; exact h) (hO.ext hH.ext)).mono ?_; rintro e7 w7 ⟨vc, rfl, oc, hc⟩
       rw [HYL.out, HYX.out] at oc
       obtain ⟨pa1, na1, ca1, pa2, na2, ca2, pa3, na3, ca3, rfl⟩ := oc.shape
       (try go_simp)
       refine hK.out _ ?_ _ ?_ ?_; rotate_left 2
       · (try simp only [r0, r2, r4, r6]); rfl
       exact ⟨by have hX := hN.addT 18 hc oc (Nat.le_refl _); simpa only [List.set_cons_zero, List.set_cons_succ, updB, updV, blkOf_mk, tup0_mk, partsOf3, Nat.reduceBEq, cond_true, cond_false, hb, d0, d2, d4, d6, n8, n9, r0, r2, r4, r6] using hX, v0, v1, v2, v3, v4, v5, v6, fun _ => ⟨_, _, _, _, _, _, _, _, _, rfl⟩, fun h => absurd (show b 8 = true from h) (by rw [n8]; exact Bool.false_ne_true), fun h => absurd (show b 9 = true from h) (by rw [n9]; exact Bool.false_ne_true), v10, v11, v13⟩
     refine AllSteps.cons (j := 9) rfl (fun b t wx hJ hb hd hcl Kc hK => ?_) ?_
     · obtain ⟨hH, v0, v1, v2, v3, v4, v5, v6, v7, v8, v9, v10, v11, v13⟩ := hJ
       have d7 := hd.out 7 (by kernel_rfl); have r7 := v7 d7
       obtain ⟨p1_7, n1_7, c1_7, p2_7, n2_7, c2_7, p3_7, n3_7, c3_7, r7⟩ := r7
       have c_kr_0 := hH.ext.cell kr_0; have c_kr_1 := hH.ext.cell kr_1; have c_kr_2 := hH.ext.cell kr_2
       go_simp
       refine hK.out _ ?_ _ ?_ ?_; rotate_left 2
       · (try simp only [r7]); rfl
       exact ⟨hH, v0, v1, v2, v3, v4, v5, v6, v7, fun _ => (by first | rfl | exact r7.symm), v9, v10, v11, v13⟩
     refine AllSteps.cons (j := 10) rfl (fun b t wx hJ hb hd hcl Kc hK => ?_) ?_
     · obtain ⟨hH, v0, v1, v2, v3, v4, v5, v6, v7, v8, v9, v10, v11, v13⟩ := hJ
       have d7 := hcl.out 8 7 (by kernel_rfl) (hd.out 8 (by kernel_rfl)); have d8 := hd.out 8 (by kernel_rfl)
       have n12 : b 12 = false := Bool.eq_false_iff.2 fun h => absurd (hcl.out 12 9 (by kernel_rfl) (h)) (by rw [hb]; exact Bool.false_ne_true)
       have r7 := v7 d7; have r8 := v8 d8
       obtain ⟨p1_7, n1_7, c1_7, p2_7, n2_7, c2_7, p3_7, n3_7, c3_7, r7⟩ := r7
       have hN := hH; (try simp only [hb, d7, d8, n12, cond_true, cond_false] at hN)
       have e7 := r7 -- d7
       go_simp
       refine hK.out _ ?_ _ ?_ ?_; rotate_left 2
       · (try simp only [r7, r8]); rfl
       exact ⟨by have hX := hN; simpa only [List.set_cons_zero, List.set_cons_succ, updB, updV, blkOf_mk, tup0_mk, partsOf3, Nat.reduceBEq, cond_true, cond_false, hb, d7, d8, n12, r7, r8] using hX, v0, v1, v2, v3, v4, v5, v6, v7, v8, fun _ => (by show _ = tup0 (t 7); rw [r7]; rfl), v10, v11, v13⟩
     refine AllSteps.cons (j := 11) rfl (fun b t wx hJ hb hd hcl Kc hK => ?_) ?_
     · obtain ⟨hH, v0, v1, v2, v3, v4, v5, v6, v7, v8, v9, v10, v11, v13⟩ := hJ
       have d7 := hcl.out 8 7 (by kernel_rfl) (hd.out 8 (by kernel_rfl)); have d8 := hd.out 8 (by kernel_rfl); have r7 := v7 d7; have r8 := v8 d8
       obtain ⟨p1_7, n1_7, c1_7, p2_7, n2_7, c2_7, p3_7, n3_7, c3_7, r7⟩ := r7
       have e7 := r7 -- d7
       go_simp
       refine hK.out _ ?_ _ ?_ ?_; rotate_left 2
       · (try simp only [r7, r8]); rfl
       exact ⟨hH, v0, v1, v2, v3, v4, v5, v6, v7, v8, v9, fun _ => rfl, v11, v13⟩
     refine AllSteps.cons (j := 12) rfl (fun b t wx hJ hb hd hcl Kc hK => ?_) ?_
     · obtain ⟨hH, v0, v1, v2, v3, v4, v5, v6, v7, v8, v9, v10, v11, v13⟩ := hJ
       have n12 : b 12 = false := Bool.eq_false_iff.2 fun h => absurd (hcl.out 12 11 (by kernel_rfl) (h)) (by rw [hb]; exact Bool.false_ne_true)
       have hN := hH; (try simp only [hb, n12, cond_true, cond_false] at hN)
       go_simp
       refine hK.out _ ?_ _ ?_ ?_; rotate_left 2
       · rfl
       exact ⟨by have hX := hN.addB 19 #[.slice none 0 0, .slice none 0 0, .slice none 0 0] 32; simpa only [List.set_cons_zero, List.set_cons_succ, updB, updV, blkOf_mk, tup0_mk, partsOf3, Nat.reduceBEq, cond_true, cond_false, hb, n12] using hX, v0, v1, v2, v3, v4, v5, v6, v7, v8, v9, v10, fun _ => ⟨_, rfl⟩, v13⟩
     refine AllSteps.cons (j := 13) rfl (fun b t wx hJ hb hd hcl Kc hK => ?_) ?_
     · obtain ⟨hH, v0, v1, v2, v3, v4, v5, v6, v7, v8, v9, v10, v11, v13⟩ := hJ
       have d0 := hd.out 0 (by kernel_rfl); have d1 := hd.out 1 (by kernel_rfl); have d2 := hd.out 2 (by kernel_rfl); have d3 := hd.out 3 (by kernel_rfl); have d4 := hd.out 4 (by kernel_rfl); have d5 := hd.out 5 (by kernel_rfl); have d6 := hd.out 6 (by kernel_rfl); have d7 := hd.out 7 (by kernel_rfl); have d8 := hd.out 8 (by kernel_rfl); have d9 := hd.out 9 (by kernel_rfl); have d11 := hd.out 11 (by kernel_rfl); have r0 := v0 d0; have r1 := v1 d1; have r2 := v2 d2; have r3 := v3 d3; have r4 := v4 d4; have r5 := v5 d5; have r6 := v6 d6; have r7 := v7 d7; have r8 := v8 d8; have r9 := v9 d9; have r11 := v11 d11
       obtain ⟨p1_2, n1_2, c1_2, p2_2, n2_2, c2_2, p3_2, n3_2, c3_2, r2⟩ := r2
       obtain ⟨p1_4, n1_4, c1_4, p2_4, n2_4, c2_4, p3_4, n3_4, c3_4, r4⟩ := r4
       obtain ⟨p1_7, n1_7, c1_7, p2_7, n2_7, c2_7, p3_7, n3_7, c3_7, r7⟩ := r7
       obtain ⟨q_11, r11⟩ := r11
       have hN := hH; (try simp only [hb, d0, d1, d2, d3, d4, d5, d6, d7, d8, d9, d11, cond_true, cond_false] at hN)
       rw [r7, tup0_mk] at r9 -- d7
       simp only [r11, r9, blkOf_mk, tup0_mk, partsOf3] at hN
       have B := hN.blk (k := 19) rfl
       have f0 := B.free 0; have z0 := B.cell (j := 0) rfl
       have f1 := B.free 1; have z1 := B.cell (j := 1) rfl
       have f2 := B.free 2; have z2 := B.cell (j := 2) rfl
       have lB := B.lt; have hmk0 := @tup0_mk
       go_simp
       refine hK.out _ undef _ ?_ ?_; rotate_left 1
       · (try simp only [r0, r1, r2, r3, r4, r5, r6, r7, r8, r9, r11]); rfl
       exact ⟨by have hX := hN.setB3' (k := 19) rfl (.slice p1_7 n1_7 c1_7) (.slice p2_7 n2_7 c2_7) (.slice p3_7 n3_7 c3_7); simpa only [List.set_cons_zero, List.set_cons_succ, updB, updV, blkOf_mk, tup0_mk, partsOf3, Nat.reduceBEq, cond_true, cond_false, hb, d0, d1, d2, d3, d4, d5, d6, d7, d8, d9, d11, r0, r1, r2, r3, r4, r5, r6, r7, r8, r9, r11] using hX, v0, v1, v2, v3, v4, v5, v6, v7, v8, v9, v10, v11, v13⟩
     refine AllSteps.cons (j := 14) rfl (fun b t wx hJ hb hd hcl Kc hK => ?_) ?_
     · obtain ⟨hH, v0, v1, v2, v3, v4, v5, v6, v7, v8, v9, v10, v11, v13⟩ := hJ
       have d0 := hd.out 0 (by kernel_rfl); have d1 := hd.out 1 (by kernel_rfl); have d2 := hd.out 2 (by kernel_rfl); have d3 := hd.out 3 (by kernel_rfl); have d4 := hd.out 4 (by kernel_rfl); have d5 := hd.out 5 (by kernel_rfl); have d6 := hd.out 6 (by kernel_rfl); have d7 := hd.out 7 (by kernel_rfl); have d8 := hd.out 8 (by kernel_rfl); have d9 := hd.out 9 (by kernel_rfl); have d10 := hd.out 10 (by kernel_rfl); have d11 := hd.out 11 (by kernel_rfl); have d12 := hd.out 12 (by kernel_rfl); have r0 := v0 d0; have r1 := v1 d1; have r2 := v2 d2; have r3 := v3 d3; have r4 := v4 d4; have r5 := v5 d5; have r6 := v6 d6; have r7 := v7 d7; have r8 := v8 d8; have r9 := v9 d9; have r10 := v10 d10; have r11 := v11 d11
       obtain ⟨p1_2, n1_2, c1_2, p2_2, n2_2, c2_2, p3_2, n3_2, c3_2, r2⟩ := r2
       obtain ⟨p1_4, n1_4, c1_4, p2_4, n2_4, c2_4, p3_4, n3_4, c3_4, r4⟩ := r4
       obtain ⟨p1_7, n1_7, c1_7, p2_7, n2_7, c2_7, p3_7, n3_7, c3_7, r7⟩ := r7
       obtain ⟨q_11, r11⟩ := r11
       have c_kr_0 := hH.ext.cell kr_0; have c_kr_1 := hH.ext.cell kr_1; have c_kr_2 := hH.ext.cell kr_2
       go_simp
       refine hK.out _ ?_ _ ?_ ?_; rotate_left 2
       · (try simp only [r0, r1, r2, r3, r4, r5, r6, r7, r8, r9, r10, r11]); rfl
       exact ⟨hH, v0, v1, v2, v3, v4, v5, v6, v7, v8, v9, v10, v11, fun _ => rfl⟩
     exact AllSteps.nil
   case hEa =>
    intro b t wa hJ hall
    obtain ⟨hHa, v0, v1, v2, v3, v4, v5, v6, v7, v8, v9, v10, v11, v13⟩ := hJ
    have a0 := hall 0 (by decide); have a1 := hall 1 (by decide); have a2 := hall 2 (by decide); have a3 := hall 3 (by decide); have a4 := hall 4 (by decide); have a5 := hall 5 (by decide); have a6 := hall 6 (by decide); have a7 := hall 7 (by decide); have a8 := hall 8 (by decide); have a9 := hall 9 (by decide); have a10 := hall 10 (by decide); have a11 := hall 11 (by decide); have a12 := hall 12 (by decide); have a13 := hall 13 (by decide)
    (try simp only [a0, a1, a2, a3, a4, a5, a6, a7, a8, a9, a10, a11, a12, a13, cond_true] at hHa)
    replace v0 := v0 a0; replace v1 := v1 a1; replace v2 := v2 a2; replace v3 := v3 a3; replace v4 := v4 a4; replace v5 := v5 a5; replace v6 := v6 a6; replace v7 := v7 a7; replace v8 := v8 a8; replace v9 := v9 a9; replace v10 := v10 a10; replace v11 := v11 a11; replace v13 := v13 a13
    clear hall a0 a1 a2 a3 a4 a5 a6 a7 a8 a9 a10 a11 a12 a13
    generalize t 13 = x13 at hHa v13 ⊢; generalize t 11 = x11 at hHa v11 ⊢; generalize t 10 = x10 at hHa v10 ⊢; generalize t 9 = x9 at hHa v9 ⊢; generalize t 8 = x8 at hHa v8 ⊢; generalize t 7 = x7 at hHa v7 v8 v9 ⊢; generalize t 6 = x6 at hHa v6 ⊢; generalize t 5 = x5 at hHa v5 ⊢; generalize t 4 = x4 at hHa v4 ⊢; generalize t 3 = x3 at hHa v3 ⊢; generalize t 2 = x2 at hHa v2 ⊢; generalize t 1 = x1 at hHa v1 ⊢; generalize t 0 = x0 at hHa v0 ⊢; subst v0; subst v1
    obtain ⟨p1a2, n1a2, c1a2, p2a2, n2a2, c2a2, p3a2, n3a2, c3a2, rfl⟩ := v2
    subst v3
    obtain ⟨p1a4, n1a4, c1a4, p2a4, n2a4, c2a4, p3a4, n3a4, c3a4, rfl⟩ := v4
    subst v5; subst v6
    obtain ⟨p1a7, n1a7, c1a7, p2a7, n2a7, c2a7, p3a7, n3a7, c3a7, rfl⟩ := v7
    subst v8; subst v9; subst v10
    obtain ⟨qa11, rfl⟩ := v11
    subst v13
    simp only [blkOf_mk, tup0_mk, partsOf3] at hHa
    clear b
    replace hH := hHa; clear hHa
    replace hH : Held wN wa [aB (wN.heap.size) 29 [.int .i64 k, .int .i64 p, .int .i64 n, .slice aV m cV, .slice aO op.length cO], aTs (.slice aW mB cW) csB (ms.map (tenOf dimOf)), aI (.slice aQ mop.length cQ) mop, aB (wn4.heap.size) 29 [.int .i64 k, .int .i64 p, .int .i64 n, .slice aW mB cW, .slice aQ mop.length cQ], aI (.slice (some ⟨wa1.heap.size, 0, none⟩) 6 6) [0, 1, 2, 3, 4, 5], aI (.slice an 6 cn) NJ, aTs (.slice aBT mB cBT) csb (BT.map (tenOf dm12)), aI (.slice aBO BO.length cBO) BO, aB (wn8.heap.size) 29 [.int .i64 k, .int .i64 p, .int .i64 n, .slice aBT mB cBT, .slice aBO BO.length cBO], aTs (.slice aC mc cC) csc (TC.map (tenOf dm12)), aI (.slice aCO op.length cCO) op, aB (wn10.heap.size) 29 [.int .i64 k, .int .i64 p, .int .i64 n, .slice aC mc cC, .slice aCO op.length cCO], aI (.slice ax nx cx) xe.1, aTs (.slice aD md cD) csd (TD.map (tenOf dimOf)), aI (.slice aDO op.length cDO) op, aB (wn13.heap.size) 29 [.int .i64 k, .int .i64 p, .int .i64 n, .slice aD md cD, .slice aDO op.length cDO], aT (.agg #[.slice p1a2 n1a2 c1a2, .slice p2a2 n2a2 c2a2, .slice p3a2 n3a2 c3a2]) op (op.map dm12) (flat VN), aT (.agg #[.slice p1a4 n1a4 c1a4, .slice p2a4 n2a4 c2a4, .slice p3a4 n3a4 c3a4]) BO (BO.map dm12) (flat VB), aT (.agg #[.slice p1a7 n1a7 c1a7, .slice p2a7 n2a7 c2a7, .slice p3a7 n3a7 c3a7]) YL (YL.map dm12) (flat YX), aB qa11 32 [.slice p1a7 n1a7 c1a7, .slice p2a7 n2a7 c2a7, .slice p3a7 n3a7 c3a7]] := hH
    have q0_0 := hH.cl 0 0 rfl rfl; have q0_1 := hH.cl 0 1 rfl rfl; have q0_2 := hH.cl 0 2 rfl rfl; have q0_3 := hH.cl 0 3 rfl rfl; have q0_4 := hH.cl 0 4 rfl rfl; have l0_ := hH.bl 0 rfl; have q3_0 := hH.cl 3 0 rfl rfl; have q3_1 := hH.cl 3 1 rfl rfl; have q3_2 := hH.cl 3 2 rfl rfl; have q3_3 := hH.cl 3 3 rfl rfl; have q3_4 := hH.cl 3 4 rfl rfl; have l3_ := hH.bl 3 rfl; have q8_0 := hH.cl 8 0 rfl rfl; have q8_1 := hH.cl 8 1 rfl rfl; have q8_2 := hH.cl 8 2 rfl rfl; have q8_3 := hH.cl 8 3 rfl rfl; have q8_4 := hH.cl 8 4 rfl rfl; have l8_ := hH.bl 8 rfl; have q11_0 := hH.cl 11 0 rfl rfl; have q11_1 := hH.cl 11 1 rfl rfl; have q11_2 := hH.cl 11 2 rfl rfl; have q11_3 := hH.cl 11 3 rfl rfl; have q11_4 := hH.cl 11 4 rfl rfl; have l11_ := hH.bl 11 rfl; have q15_0 := hH.cl 15 0 rfl rfl; have q15_1 := hH.cl 15 1 rfl rfl; have q15_2 := hH.cl 15 2 rfl rfl; have q15_3 := hH.cl 15 3 rfl rfl; have q15_4 := hH.cl 15 4 rfl rfl; have l15_ := hH.bl 15 rfl; have q19_0 := hH.cl 19 0 rfl rfl; have q19_1 := hH.cl 19 1 rfl rfl; have q19_2 := hH.cl 19 2 rfl rfl; have l19_ := hH.bl 19 rfl; have c_kr_0 := hH.ext.cell kr_0; have c_kr_1 := hH.ext.cell kr_1; have c_kr_2 := hH.ext.cell kr_2
    have c_kr_l := Nat.lt_of_lt_of_le kr_l hH.ext.size
    go_wp2_with fail
    clear q0_0 q0_1 q0_2 q0_3 q0_4 l0_ q3_0 q3_1 q3_2 q3_3 q3_4 l3_ q8_0 q8_1 q8_2 q8_3 q8_4 l8_ q11_0 q11_1 q11_2 q11_3 q11_4 l11_ q15_0 q15_1 q15_2 q15_3 q15_4 l15_ q19_0 q19_1 q19_2 l19_ c_kr_0 c_kr_1 c_kr_2 c_kr_l
    refine (permuteTensor_any HR.out HTY.out HPY.out _ _ _ (hH.tens (k := 18) rfl) (hO.ext hH.ext)).mono ?_; rintro ewn15 wn15 ⟨vc, rfl, oc, hwn15⟩
    rw [HJV.out] at oc
    obtain ⟨zp1, zn1, zc1, zp2, zn2, zc2, zp3, zn3, zc3, rfl⟩ := oc.shape
    replace hH : Held wN wn15 [aB (wN.heap.size) 29 [.int .i64 k, .int .i64 p, .int .i64 n, .slice aV m cV, .slice aO op.length cO], aTs (.slice aW mB cW) csB (ms.map (tenOf dimOf)), aI (.slice aQ mop.length cQ) mop, aB (wn4.heap.size) 29 [.int .i64 k, .int .i64 p, .int .i64 n, .slice aW mB cW, .slice aQ mop.length cQ], aI (.slice (some ⟨wa1.heap.size, 0, none⟩) 6 6) [0, 1, 2, 3, 4, 5], aI (.slice an 6 cn) NJ, aTs (.slice aBT mB cBT) csb (BT.map (tenOf dm12)), aI (.slice aBO BO.length cBO) BO, aB (wn8.heap.size) 29 [.int .i64 k, .int .i64 p, .int .i64 n, .slice aBT mB cBT, .slice aBO BO.length cBO], aTs (.slice aC mc cC) csc (TC.map (tenOf dm12)), aI (.slice aCO op.length cCO) op, aB (wn10.heap.size) 29 [.int .i64 k, .int .i64 p, .int .i64 n, .slice aC mc cC, .slice aCO op.length cCO], aI (.slice ax nx cx) xe.1, aTs (.slice aD md cD) csd (TD.map (tenOf dimOf)), aI (.slice aDO op.length cDO) op, aB (wn13.heap.size) 29 [.int .i64 k, .int .i64 p, .int .i64 n, .slice aD md cD, .slice aDO op.length cDO], aT (.agg #[.slice p1a2 n1a2 c1a2, .slice p2a2 n2a2 c2a2, .slice p3a2 n3a2 c3a2]) op (op.map dm12) (flat VN), aT (.agg #[.slice p1a4 n1a4 c1a4, .slice p2a4 n2a4 c2a4, .slice p3a4 n3a4 c3a4]) BO (BO.map dm12) (flat VB), aT (.agg #[.slice p1a7 n1a7 c1a7, .slice p2a7 n2a7 c2a7, .slice p3a7 n3a7 c3a7]) YL (YL.map dm12) (flat YX), aB qa11 32 [.slice p1a7 n1a7 c1a7, .slice p2a7 n2a7 c2a7, .slice p3a7 n3a7 c3a7], aT (.agg #[.slice zp1 zn1 zc1, .slice zp2 zn2 zc2, .slice zp3 zn3 zc3]) op (op.map dm12) (flat VC)] := (hH.mores 1).addT 20 hwn15 oc (Nat.le_refl _)
    clear hwn15
    have q0_0 := hH.cl 0 0 rfl rfl; have q0_1 := hH.cl 0 1 rfl rfl; have q0_2 := hH.cl 0 2 rfl rfl; have q0_3 := hH.cl 0 3 rfl rfl; have q0_4 := hH.cl 0 4 rfl rfl; have l0_ := hH.bl 0 rfl; have q3_0 := hH.cl 3 0 rfl rfl; have q3_1 := hH.cl 3 1 rfl rfl; have q3_2 := hH.cl 3 2 rfl rfl; have q3_3 := hH.cl 3 3 rfl rfl; have q3_4 := hH.cl 3 4 rfl rfl; have l3_ := hH.bl 3 rfl; have q8_0 := hH.cl 8 0 rfl rfl; have q8_1 := hH.cl 8 1 rfl rfl; have q8_2 := hH.cl 8 2 rfl rfl; have q8_3 := hH.cl 8 3 rfl rfl; have q8_4 := hH.cl 8 4 rfl rfl; have l8_ := hH.bl 8 rfl; have q11_0 := hH.cl 11 0 rfl rfl; have q11_1 := hH.cl 11 1 rfl rfl; have q11_2 := hH.cl 11 2 rfl rfl; have q11_3 := hH.cl 11 3 rfl rfl; have q11_4 := hH.cl 11 4 rfl rfl; have l11_ := hH.bl 11 rfl; have q15_0 := hH.cl 15 0 rfl rfl; have q15_1 := hH.cl 15 1 rfl rfl; have q15_2 := hH.cl 15 2 rfl rfl; have q15_3 := hH.cl 15 3 rfl rfl; have q15_4 := hH.cl 15 4 rfl rfl; have l15_ := hH.bl 15 rfl; have q19_0 := hH.cl 19 0 rfl rfl; have q19_1 := hH.cl 19 1 rfl rfl; have q19_2 := hH.cl 19 2 rfl rfl; have l19_ := hH.bl 19 rfl; have c_kr_0 := hH.ext.cell kr_0; have c_kr_1 := hH.ext.cell kr_1; have c_kr_2 := hH.ext.cell kr_2
    have c_kr_l := Nat.lt_of_lt_of_le kr_l hH.ext.size
    go_wp2_with fail
    clear q0_0 q0_1 q0_2 q0_3 q0_4 l0_ q3_0 q3_1 q3_2 q3_3 q3_4 l3_ q8_0 q8_1 q8_2 q8_3 q8_4 l8_ q11_0 q11_1 q11_2 q11_3 q11_4 l11_ q15_0 q15_1 q15_2 q15_3 q15_4 l15_ q19_0 q19_1 q19_2 l19_ c_kr_0 c_kr_1 c_kr_2 c_kr_l
    have hB : Held wN (wn15.alloc (.cells #[.slice zp1 zn1 zc1, .slice zp2 zn2 zc2, .slice zp3 zn3 zc3] 32)) [aB (wN.heap.size) 29 [.int .i64 k, .int .i64 p, .int .i64 n, .slice aV m cV, .slice aO op.length cO], aTs (.slice aW mB cW) csB (ms.map (tenOf dimOf)), aI (.slice aQ mop.length cQ) mop, aB (wn4.heap.size) 29 [.int .i64 k, .int .i64 p, .int .i64 n, .slice aW mB cW, .slice aQ mop.length cQ], aI (.slice (some ⟨wa1.heap.size, 0, none⟩) 6 6) [0, 1, 2, 3, 4, 5], aI (.slice an 6 cn) NJ, aTs (.slice aBT mB cBT) csb (BT.map (tenOf dm12)), aI (.slice aBO BO.length cBO) BO, aB (wn8.heap.size) 29 [.int .i64 k, .int .i64 p, .int .i64 n, .slice aBT mB cBT, .slice aBO BO.length cBO], aTs (.slice aC mc cC) csc (TC.map (tenOf dm12)), aI (.slice aCO op.length cCO) op, aB (wn10.heap.size) 29 [.int .i64 k, .int .i64 p, .int .i64 n, .slice aC mc cC, .slice aCO op.length cCO], aI (.slice ax nx cx) xe.1, aTs (.slice aD md cD) csd (TD.map (tenOf dimOf)), aI (.slice aDO op.length cDO) op, aB (wn13.heap.size) 29 [.int .i64 k, .int .i64 p, .int .i64 n, .slice aD md cD, .slice aDO op.length cDO], aT (.agg #[.slice p1a2 n1a2 c1a2, .slice p2a2 n2a2 c2a2, .slice p3a2 n3a2 c3a2]) op (op.map dm12) (flat VN), aT (.agg #[.slice p1a4 n1a4 c1a4, .slice p2a4 n2a4 c2a4, .slice p3a4 n3a4 c3a4]) BO (BO.map dm12) (flat VB), aT (.agg #[.slice p1a7 n1a7 c1a7, .slice p2a7 n2a7 c2a7, .slice p3a7 n3a7 c3a7]) YL (YL.map dm12) (flat YX), aB qa11 32 [.slice p1a7 n1a7 c1a7, .slice p2a7 n2a7 c2a7, .slice p3a7 n3a7 c3a7], aT (.agg #[.slice zp1 zn1 zc1, .slice zp2 zn2 zc2, .slice zp3 zn3 zc3]) op (op.map dm12) (flat VC), aB (wn15.heap.size) 32 [.slice zp1 zn1 zc1, .slice zp2 zn2 zc2, .slice zp3 zn3 zc3]] := by
     have h := (hH.mores 1).addB 21 #[.slice zp1 zn1 zc1, .slice zp2 zn2 zc2, .slice zp3 zn3 zc3] 32
     exact h
    have hsz : (wn15.alloc (.cells #[.slice zp1 zn1 zc1, .slice zp2 zn2 zc2, .slice zp3 zn3 zc3] 32)).heap.size = wn15.heap.size + 1 := by simp
    generalize wn15.alloc (.cells #[.slice zp1 zn1 zc1, .slice zp2 zn2 zc2, .slice zp3 zn3 zc3] 32) = wn16 at hB hsz ⊢
    replace hH := hB; have HSZwn16 := Lib.hid hsz; clear hB hsz
    obtain ⟨wy, rfl⟩ : ∃ q, q = wn16 := ⟨wn16, rfl⟩
    replace hH := hH.mores 2
    replace hH : Held wN wy [aB (wN.heap.size) 29 [.int .i64 k, .int .i64 p, .int .i64 n, .slice aV m cV, .slice aO op.length cO], aTs (.slice aW mB cW) csB (ms.map (tenOf dimOf)), aI (.slice aQ mop.length cQ) mop, aB (wn4.heap.size) 29 [.int .i64 k, .int .i64 p, .int .i64 n, .slice aW mB cW, .slice aQ mop.length cQ], aI (.slice (some ⟨wa1.heap.size, 0, none⟩) 6 6) [0, 1, 2, 3, 4, 5], aI (.slice an 6 cn) NJ, aTs (.slice aBT mB cBT) csb (BT.map (tenOf dm12)), aI (.slice aBO BO.length cBO) BO, aB (wn8.heap.size) 29 [.int .i64 k, .int .i64 p, .int .i64 n, .slice aBT mB cBT, .slice aBO BO.length cBO], aTs (.slice aC mc cC) csc (TC.map (tenOf dm12)), aI (.slice aCO op.length cCO) op, aB (wn10.heap.size) 29 [.int .i64 k, .int .i64 p, .int .i64 n, .slice aC mc cC, .slice aCO op.length cCO], aI (.slice ax nx cx) xe.1, aTs (.slice aD md cD) csd (TD.map (tenOf dimOf)), aI (.slice aDO op.length cDO) op, aB (wn13.heap.size) 29 [.int .i64 k, .int .i64 p, .int .i64 n, .slice aD md cD, .slice aDO op.length cDO], aT (.agg #[.slice p1a2 n1a2 c1a2, .slice p2a2 n2a2 c2a2, .slice p3a2 n3a2 c3a2]) op (op.map dm12) (flat VN), aT (.agg #[.slice p1a4 n1a4 c1a4, .slice p2a4 n2a4 c2a4, .slice p3a4 n3a4 c3a4]) BO (BO.map dm12) (flat VB), aT (.agg #[.slice p1a7 n1a7 c1a7, .slice p2a7 n2a7 c2a7, .slice p3a7 n3a7 c3a7]) YL (YL.map dm12) (flat YX), aB qa11 32 [.slice p1a7 n1a7 c1a7, .slice p2a7 n2a7 c2a7, .slice p3a7 n3a7 c3a7], aT (.agg #[.slice zp1 zn1 zc1, .slice zp2 zn2 zc2, .slice zp3 zn3 zc3]) op (op.map dm12) (flat VC), aB (wn15.heap.size) 32 [.slice zp1 zn1 zc1, .slice zp2 zn2 zc2, .slice zp3 zn3 zc3], emp, emp] := hH
    refine wp_region_steps ?Fe (fun b t wx => Held wN wx [aB (wN.heap.size) 29 [.int .i64 k, .int .i64 p, .int .i64 n, .slice aV m cV, .slice aO op.length cO], aTs (.slice aW mB cW) csB (ms.map (tenOf dimOf)), aI (.slice aQ mop.length cQ) mop, aB (wn4.heap.size) 29 [.int .i64 k, .int .i64 p, .int .i64 n, .slice aW mB cW, .slice aQ mop.length cQ], aI (.slice (some ⟨wa1.heap.size, 0, none⟩) 6 6) [0, 1, 2, 3, 4, 5], aI (.slice an 6 cn) NJ, aTs (.slice aBT mB cBT) csb (BT.map (tenOf dm12)), aI (.slice aBO BO.length cBO) BO, aB (wn8.heap.size) 29 [.int .i64 k, .int .i64 p, .int .i64 n, .slice aBT mB cBT, .slice aBO BO.length cBO], aTs (.slice aC mc cC) csc (TC.map (tenOf dm12)), aI (.slice aCO op.length cCO) op, aB (wn10.heap.size) 29 [.int .i64 k, .int .i64 p, .int .i64 n, .slice aC mc cC, .slice aCO op.length cCO], aI (.slice ax nx cx) xe.1, aTs (.slice aD md cD) csd (TD.map (tenOf dimOf)), aI (.slice aDO op.length cDO) op, aB (wn13.heap.size) 29 [.int .i64 k, .int .i64 p, .int .i64 n, .slice aD md cD, .slice aDO op.length cDO], aT (.agg #[.slice p1a2 n1a2 c1a2, .slice p2a2 n2a2 c2a2, .slice p3a2 n3a2 c3a2]) op (op.map dm12) (flat VN), aT (.agg #[.slice p1a4 n1a4 c1a4, .slice p2a4 n2a4 c2a4, .slice p3a4 n3a4 c3a4]) BO (BO.map dm12) (flat VB), aT (.agg #[.slice p1a7 n1a7 c1a7, .slice p2a7 n2a7 c2a7, .slice p3a7 n3a7 c3a7]) YL (YL.map dm12) (flat YX), aB qa11 32 [.slice p1a7 n1a7 c1a7, .slice p2a7 n2a7 c2a7, .slice p3a7 n3a7 c3a7], aT (.agg #[.slice zp1 zn1 zc1, .slice zp2 zn2 zc2, .slice zp3 zn3 zc3]) op (op.map dm12) (flat VC), aB (wn15.heap.size) 32 [.slice zp1 zn1 zc1, .slice zp2 zn2 zc2, .slice zp3 zn3 zc3], (bif b 22 then aT (t 22) op (op.map dimOf) (flat RX) else emp), (bif b 24 then aT (t 24) op (op.map dimOf) (flat SV) else emp)] ∧ (b 0 = true → t 0 = .bool true) ∧ (b 1 = true → t 1 = .bool true) ∧ (b 2 = true → t 2 = .bool true) ∧ (b 3 = true → t 3 = .bool true) ∧ (b 4 = true → t 4 = .bool true) ∧ (b 5 = true → t 5 = .bool true) ∧ (b 6 = true → t 6 = .bool true) ∧ (b 7 = true → t 7 = .bool true) ∧ (b 8 = true → t 8 = .bool true) ∧ (b 9 = true → t 9 = .bool true) ∧ (b 10 = true → t 10 = .bool true) ∧ (b 11 = true → t 11 = .bool true) ∧ (b 12 = true → t 12 = .bool true) ∧ (b 13 = true → t 13 = .bool true) ∧ (b 14 = true → t 14 = .agg #[.int .i64 k, .int .i64 p, .int .i64 n, .slice aC mc cC, .slice aCO op.length cCO]) ∧ (b 15 = true → t 15 = .agg #[.slice zp1 zn1 zc1, .slice zp2 zn2 zc2, .slice zp3 zn3 zc3]) ∧ (b 16 = true → t 16 = .bool true) ∧ (b 17 = true → t 17 = .bool true) ∧ (b 18 = true → t 18 = .bool true) ∧ (b 19 = true → t 19 = .agg #[.int .i64 k, .int .i64 p, .int .i64 n, .slice aD md cD, .slice aDO op.length cDO]) ∧ (b 20 = true → t 20 = .agg #[.int .i64 k, .int .i64 p, .int .i64 n]) ∧ (b 21 = true → t 21 = .agg #[.int .i64 k, .int .i64 p, .int .i64 n, .slice aV m cV, .slice aO op.length cO]) ∧ (b 22 = true → ∃ p1 n1 c1 p2 n2 c2 p3 n3 c3, t 22 = .agg #[.slice p1 n1 c1, .slice p2 n2 c2, .slice p3 n3 c3]) ∧ (b 23 = true → t 23 = .slice ax nx cx) ∧ (b 24 = true → ∃ p1 n1 c1 p2 n2 c2 p3 n3 c3, t 24 = .agg #[.slice p1 n1 c1, .slice p2 n2 c2, .slice p3 n3 c3]) ∧ (b 25 = true → t 25 = .bool true) ∧ (b 26 = true → t 26 = .bool true) ∧ (b 27 = true → t 27 = t 26)) ?hFe (by kernel_rfl) (by kernel_rfl) ?hJe ?hSe ?hEe
    (case hFe => intro t; simp only [putAll, Act.put, List.setIfInBounds_toArray, List.set_cons_zero, List.set_cons_succ, Nat.reduceAdd, Nat.zero_add]; exact rfl)
    case hJe => exact ⟨hH.grow ((Ext.refl _).drew), fun h => absurd h Bool.false_ne_true, fun h => absurd h Bool.false_ne_true, fun h => absurd h Bool.false_ne_true, fun h => absurd h Bool.false_ne_true, fun h => absurd h Bool.false_ne_true, fun h => absurd h Bool.false_ne_true, fun h => absurd h Bool.false_ne_true, fun h => absurd h Bool.false_ne_true, fun h => absurd h Bool.false_ne_true, fun h => absurd h Bool.false_ne_true, fun h => absurd h Bool.false_ne_true, fun h => absurd h Bool.false_ne_true, fun h => absurd h Bool.false_ne_true, fun h => absurd h Bool.false_ne_true, fun h => absurd h Bool.false_ne_true, fun h => absurd h Bool.false_ne_true, fun h => absurd h Bool.false_ne_true, fun h => absurd h Bool.false_ne_true, fun h => absurd h Bool.false_ne_true, fun h => absurd h Bool.false_ne_true, fun h => absurd h Bool.false_ne_true, fun h => absurd h Bool.false_ne_true, fun h => absurd h Bool.false_ne_true, fun h => absurd h Bool.false_ne_true, fun h => absurd h Bool.false_ne_true, fun h => absurd h Bool.false_ne_true, fun h => absurd h Bool.false_ne_true, fun h => absurd h Bool.false_ne_true⟩
    case hSe => as_aux_lemma =>
      refine AllSteps.cons (j := 1) rfl (fun b t wx hJ hb hd hcl Kc hK => ?_) ?_
      · obtain ⟨hH, v0, v1, v2, v3, v4, v5, v6, v7, v8, v9, v10, v11, v12, v13, v14, v15, v16, v17, v18, v19, v20, v21, v22, v23, v24, v25, v26, v27⟩ := hJ
        have c_kr_0 := hH.ext.cell kr_0; have c_kr_1 := hH.ext.cell kr_1; have c_kr_2 := hH.ext.cell kr_2
        go_simp
        refine hK.out _ ?_ _ ?_ ?_; rotate_left 2
        · rfl
        exact ⟨hH, fun _ => rfl, v1, v2, v3, v4, v5, v6, v7, v8, v9, v10, v11, v12, v13, v14, v15, v16, v17, v18, v19, v20, v21, v22, v23, v24, v25, v26, v27⟩
      refine AllSteps.cons (j := 2) rfl (fun b t wx hJ hb hd hcl Kc hK => ?_) ?_
      · obtain ⟨hH, v0, v1, v2, v3, v4, v5, v6, v7, v8, v9, v10, v11, v12, v13, v14, v15, v16, v17, v18, v19, v20, v21, v22, v23, v24, v25, v26, v27⟩ := hJ
        have d0 := hd.out 0 (by kernel_rfl); have r0 := v0 d0; have c_kr_0 := hH.ext.cell kr_0; have c_kr_1 := hH.ext.cell kr_1; have c_kr_2 := hH.ext.cell kr_2
        go_simp
        refine hK.out _ ?_ _ ?_ ?_; rotate_left 2
        · (try simp only [r0]); rfl
        exact ⟨hH, v0, fun _ => rfl, v2, v3, v4, v5, v6, v7, v8, v9, v10, v11, v12, v13, v14, v15, v16, v17, v18, v19, v20, v21, v22, v23, v24, v25, v26, v27⟩
      refine AllSteps.cons (j := 3) rfl (fun b t wx hJ hb hd hcl Kc hK => ?_) ?_
      · obtain ⟨hH, v0, v1, v2, v3, v4, v5, v6, v7, v8, v9, v10, v11, v12, v13, v14, v15, v16, v17, v18, v19, v20, v21, v22, v23, v24, v25, v26, v27⟩ := hJ
        have d1 := hd.out 1 (by kernel_rfl); have r1 := v1 d1; have c_kr_0 := hH.ext.cell kr_0; have c_kr_1 := hH.ext.cell kr_1; have c_kr_2 := hH.ext.cell kr_2
        go_simp
        refine hK.out _ ?_ _ ?_ ?_; rotate_left 2
        · (try simp only [r1]); rfl
        exact ⟨hH, v0, v1, fun _ => rfl, v3, v4, v5, v6, v7, v8, v9, v10, v11, v12, v13, v14, v15, v16, v17, v18, v19, v20, v21, v22, v23, v24, v25, v26, v27⟩
      refine AllSteps.cons (j := 4) rfl (fun b t wx hJ hb hd hcl Kc hK => ?_) ?_
      · obtain ⟨hH, v0, v1, v2, v3, v4, v5, v6, v7, v8, v9, v10, v11, v12, v13, v14, v15, v16, v17, v18, v19, v20, v21, v22, v23, v24, v25, v26, v27⟩ := hJ
        have d1 := hd.out 1 (by kernel_rfl); have d2 := hd.out 2 (by kernel_rfl); have r1 := v1 d1; have r2 := v2 d2; have c_kr_0 := hH.ext.cell kr_0; have c_kr_1 := hH.ext.cell kr_1; have c_kr_2 := hH.ext.cell kr_2
        go_simp
        refine hK.out _ ?_ _ ?_ ?_; rotate_left 2
        · (try simp only [r1, r2]); rfl
        exact ⟨hH, v0, v1, v2, fun _ => rfl, v4, v5, v6, v7, v8, v9, v10, v11, v12, v13, v14, v15, v16, v17, v18, v19, v20, v21, v22, v23, v24, v25, v26, v27⟩
      refine AllSteps.cons (j := 5) rfl (fun b t wx hJ hb hd hcl Kc hK => ?_) ?_
      · obtain ⟨hH, v0, v1, v2, v3, v4, v5, v6, v7, v8, v9, v10, v11, v12, v13, v14, v15, v16, v17, v18, v19, v20, v21, v22, v23, v24, v25, v26, v27⟩ := hJ
        have d1 := hd.out 1 (by kernel_rfl); have d3 := hd.out 3 (by kernel_rfl); have r1 := v1 d1; have r3 := v3 d3; have c_kr_0 := hH.ext.cell kr_0; have c_kr_1 := hH.ext.cell kr_1; have c_kr_2 := hH.ext.cell kr_2
        go_simp
        refine hK.out _ ?_ _ ?_ ?_; rotate_left 2
        · (try simp only [r1, r3]); rfl
        exact ⟨hH, v0, v1, v2, v3, fun _ => rfl, v5, v6, v7, v8, v9, v10, v11, v12, v13, v14, v15, v16, v17, v18, v19, v20, v21, v22, v23, v24, v25, v26, v27⟩
      refine AllSteps.cons (j := 6) rfl (fun b t wx hJ hb hd hcl Kc hK => ?_) ?_
      · obtain ⟨hH, v0, v1, v2, v3, v4, v5, v6, v7, v8, v9, v10, v11, v12, v13, v14, v15, v16, v17, v18, v19, v20, v21, v22, v23, v24, v25, v26, v27⟩ := hJ
        have d4 := hd.out 4 (by kernel_rfl); have r4 := v4 d4; have c_kr_0 := hH.ext.cell kr_0; have c_kr_1 := hH.ext.cell kr_1; have c_kr_2 := hH.ext.cell kr_2
        go_simp
        refine hK.out _ ?_ _ ?_ ?_; rotate_left 2
        · (try simp only [r4]); rfl
        exact ⟨hH, v0, v1, v2, v3, v4, fun _ => rfl, v6, v7, v8, v9, v10, v11, v12, v13, v14, v15, v16, v17, v18, v19, v20, v21, v22, v23, v24, v25, v26, v27⟩
      refine AllSteps.cons (j := 7) rfl (fun b t wx hJ hb hd hcl Kc hK => ?_) ?_
      · obtain ⟨hH, v0, v1, v2, v3, v4, v5, v6, v7, v8, v9, v10, v11, v12, v13, v14, v15, v16, v17, v18, v19, v20, v21, v22, v23, v24, v25, v26, v27⟩ := hJ
        have d4 := hd.out 4 (by kernel_rfl); have d5 := hd.out 5 (by kernel_rfl); have r4 := v4 d4; have r5 := v5 d5; have c_kr_0 := hH.ext.cell kr_0; have c_kr_1 := hH.ext.cell kr_1; have c_kr_2 := hH.ext.cell kr_2
        go_simp
        refine hK.out _ ?_ _ ?_ ?_; rotate_left 2
        · (try simp only [r4, r5]); rfl
        exact ⟨hH, v0, v1, v2, v3, v4, v5, fun _ => rfl, v7, v8, v9, v10, v11, v12, v13, v14, v15, v16, v17, v18, v19, v20, v21, v22, v23, v24, v25, v26, v27⟩
      refine AllSteps.cons (j := 8) rfl (fun b t wx hJ hb hd hcl Kc hK => ?_) ?_
      · obtain ⟨hH, v0, v1, v2, v3, v4, v5, v6, v7, v8, v9, v10, v11, v12, v13, v14, v15, v16, v17, v18, v19, v20, v21, v22, v23, v24, v25, v26, v27⟩ := hJ
        have d4 := hd.out 4 (by kernel_rfl); have d6 := hd.out 6 (by kernel_rfl); have r4 := v4 d4; have r6 := v6 d6; have c_kr_0 := hH.ext.cell kr_0; have c_kr_1 := hH.ext.cell kr_1; have c_kr_2 := hH.ext.cell kr_2
        go_simp
        refine hK.out _ ?_ _ ?_ ?_; rotate_left 2
        · (try simp only [r4, r6]); rfl
        exact ⟨hH, v0, v1, v2, v3, v4, v5, v6, fun _ => rfl, v8, v9, v10, v11, v12, v13, v14, v15, v16, v17, v18, v19, v20, v21, v22, v23, v24, v25, v26, v27⟩
      refine AllSteps.cons (j := 9) rfl (fun b t wx hJ hb hd hcl Kc hK => ?_) ?_
      · obtain ⟨hH, v0, v1, v2, v3, v4, v5, v6, v7, v8, v9, v10, v11, v12, v13, v14, v15, v16, v17, v18, v19, v20, v21, v22, v23, v24, v25, v26, v27⟩ := hJ
        have d7 := hd.out 7 (by kernel_rfl); have r7 := v7 d7; have c_kr_0 := hH.ext.cell kr_0; have c_kr_1 := hH.ext.cell kr_1; have c_kr_2 := hH.ext.cell kr_2
        go_simp
        refine hK.out _ ?_ _ ?_ ?_; rotate_left 2
        · (try simp only [r7]); rfl
        exact ⟨hH, v0, v1, v2, v3, v4, v5, v6, v7, fun _ => rfl, v9, v10, v11, v12, v13, v14, v15, v16, v17, v18, v19, v20, v21, v22, v23, v24, v25, v26, v27⟩
      refine AllSteps.cons (j := 10) rfl (fun b t wx hJ hb hd hcl Kc hK => ?_) ?_
      · obtain ⟨hH, v0, v1, v2, v3, v4, v5, v6, v7, v8, v9, v10, v11, v12, v13, v14, v15, v16, v17, v18, v19, v20, v21, v22, v23, v24, v25, v26, v27⟩ := hJ
        have d7 := hd.out 7 (by kernel_rfl); have d8 := hd.out 8 (by kernel_rfl); have r7 := v7 d7; have r8 := v8 d8; have c_kr_0 := hH.ext.cell kr_0; have c_kr_1 := hH.ext.cell kr_1; have c_kr_2 := hH.ext.cell kr_2
        go_simp
        refine hK.out _ ?_ _ ?_ ?_; rotate_left 2
        · (try simp only [r7, r8]); rfl
        exact ⟨hH, v0, v1, v2, v3, v4, v5, v6, v7, v8, fun _ => rfl, v10, v11, v12, v13, v14, v15, v16, v17, v18, v19, v20, v21, v22, v23, v24, v25, v26, v27⟩
      refine AllSteps.cons (j := 11) rfl (fun b t wx hJ hb hd hcl Kc hK => ?_) ?_
      · obtain ⟨hH, v0, v1, v2, v3, v4, v5, v6, v7, v8, v9, v10, v11, v12, v13, v14, v15, v16, v17, v18, v19, v20, v21, v22, v23, v24, v25, v26, v27⟩ := hJ
        have d7 := hd.out 7 (by kernel_rfl); have d9 := hd.out 9 (by kernel_rfl); have r7 := v7 d7; have r9 := v9 d9; have c_kr_0 := hH.ext.cell kr_0; have c_kr_1 := hH.ext.cell kr_1; have c_kr_2 := hH.ext.cell kr_2
        go_simp
        refine hK.out _ ?_ _ ?_ ?_; rotate_left 2
        · (try simp only [r7, r9]); rfl
        exact ⟨hH, v0, v1, v2, v3, v4, v5, v6, v7, v8, v9, fun _ => rfl, v11, v12, v13, v14, v15, v16, v17, v18, v19, v20, v21, v22, v23, v24, v25, v26, v27⟩
      refine AllSteps.cons (j := 12) rfl (fun b t wx hJ hb hd hcl Kc hK => ?_) ?_
      · obtain ⟨hH, v0, v1, v2, v3, v4, v5, v6, v7, v8, v9, v10, v11, v12, v13, v14, v15, v16, v17, v18, v19, v20, v21, v22, v23, v24, v25, v26, v27⟩ := hJ
        have d10 := hd.out 10 (by kernel_rfl); have r10 := v10 d10; have c_kr_0 := hH.ext.cell kr_0; have c_kr_1 := hH.ext.cell kr_1; have c_kr_2 := hH.ext.cell kr_2
        go_simp
        refine hK.out _ ?_ _ ?_ ?_; rotate_left 2
        · (try simp only [r10]); rfl
        exact ⟨hH, v0, v1, v2, v3, v4, v5, v6, v7, v8, v9, v10, fun _ => rfl, v12, v13, v14, v15, v16, v17, v18, v19, v20, v21, v22, v23, v24, v25, v26, v27⟩
      refine AllSteps.cons (j := 13) rfl (fun b t wx hJ hb hd hcl Kc hK => ?_) ?_
      · obtain ⟨hH, v0, v1, v2, v3, v4, v5, v6, v7, v8, v9, v10, v11, v12, v13, v14, v15, v16, v17, v18, v19, v20, v21, v22, v23, v24, v25, v26, v27⟩ := hJ
        have d10 := hd.out 10 (by kernel_rfl); have d11 := hd.out 11 (by kernel_rfl); have r10 := v10 d10; have r11 := v11 d11; have c_kr_0 := hH.ext.cell kr_0; have c_kr_1 := hH.ext.cell kr_1; have c_kr_2 := hH.ext.cell kr_2
        go_simp
        refine hK.out _ ?_ _ ?_ ?_; rotate_left 2
        · (try simp only [r10, r11]); rfl
        exact ⟨hH, v0, v1, v2, v3, v4, v5, v6, v7, v8, v9, v10, v11, fun _ => rfl, v13, v14, v15, v16, v17, v18, v19, v20, v21, v22, v23, v24, v25, v26, v27⟩
      refine AllSteps.cons (j := 14) rfl (fun b t wx hJ hb hd hcl Kc hK => ?_) ?_
      · obtain ⟨hH, v0, v1, v2, v3, v4, v5, v6, v7, v8, v9, v10, v11, v12, v13, v14, v15, v16, v17, v18, v19, v20, v21, v22, v23, v24, v25, v26, v27⟩ := hJ
        have d10 := hd.out 10 (by kernel_rfl); have d12 := hd.out 12 (by kernel_rfl); have r10 := v10 d10; have r12 := v12 d12; have c_kr_0 := hH.ext.cell kr_0; have c_kr_1 := hH.ext.cell kr_1; have c_kr_2 := hH.ext.cell kr_2
        go_simp
        refine hK.out _ ?_ _ ?_ ?_; rotate_left 2
        · (try simp only [r10, r12]); rfl
        exact ⟨hH, v0, v1, v2, v3, v4, v5, v6, v7, v8, v9, v10, v11, v12, fun _ => rfl, v14, v15, v16, v17, v18, v19, v20, v21, v22, v23, v24, v25, v26, v27⟩
      refine AllSteps.cons (j := 15) rfl (fun b t wx hJ hb hd hcl Kc hK => ?_) ?_
      · obtain ⟨hH, v0, v1, v2, v3, v4, v5, v6, v7, v8, v9, v10, v11, v12, v13, v14, v15, v16, v17, v18, v19, v20, v21, v22, v23, v24, v25, v26, v27⟩ := hJ
        have d13 := hd.out 13 (by kernel_rfl); have r13 := v13 d13; have c_kr_0 := hH.ext.cell kr_0; have c_kr_1 := hH.ext.cell kr_1; have c_kr_2 := hH.ext.cell kr_2; have q11_0 := hH.cl 11 0 rfl rfl; have q11_1 := hH.cl 11 1 rfl rfl; have q11_2 := hH.cl 11 2 rfl rfl; have q11_3 := hH.cl 11 3 rfl rfl; have q11_4 := hH.cl 11 4 rfl rfl
        go_simp
        refine hK.out _ ?_ _ ?_ ?_; rotate_left 2
        · (try simp only [r13]); rfl
        exact ⟨hH, v0, v1, v2, v3, v4, v5, v6, v7, v8, v9, v10, v11, v12, v13, fun _ => rfl, v15, v16, v17, v18, v19, v20, v21, v22, v23, v24, v25, v26, v27⟩
      refine AllSteps.cons (j := 16) rfl (fun b t wx hJ hb hd hcl Kc hK => ?_) ?_
      · obtain ⟨hH, v0, v1, v2, v3, v4, v5, v6, v7, v8, v9, v10, v11, v12, v13, v14, v15, v16, v17, v18, v19, v20, v21, v22, v23, v24, v25, v26, v27⟩ := hJ
        have d13 := hd.out 13 (by kernel_rfl); have r13 := v13 d13; have c_kr_0 := hH.ext.cell kr_0; have c_kr_1 := hH.ext.cell kr_1; have c_kr_2 := hH.ext.cell kr_2; have q21_0 := hH.cl 21 0 rfl rfl; have q21_1 := hH.cl 21 1 rfl rfl; have q21_2 := hH.cl 21 2 rfl rfl
        go_simp
        refine hK.out _ ?_ _ ?_ ?_; rotate_left 2
        · (try simp only [r13]); rfl
        exact ⟨hH, v0, v1, v2, v3, v4, v5, v6, v7, v8, v9, v10, v11, v12, v13, v14, fun _ => rfl, v16, v17, v18, v19, v20, v21, v22, v23, v24, v25, v26, v27⟩
      refine AllSteps.cons (j := 17) rfl (fun b t wx hJ hb hd hcl Kc hK => ?_) ?_
      · obtain ⟨hH, v0, v1, v2, v3, v4, v5, v6, v7, v8, v9, v10, v11, v12, v13, v14, v15, v16, v17, v18, v19, v20, v21, v22, v23, v24, v25, v26, v27⟩ := hJ
        have d13 := hd.out 13 (by kernel_rfl); have d14 := hd.out 14 (by kernel_rfl); have d15 := hd.out 15 (by kernel_rfl); have r13 := v13 d13; have r14 := v14 d14; have r15 := v15 d15
        go_simp
        go_at_call 49
        refine (gives_any HR.out HJN.out _ _ _ (hH.tensS (k := 9) rfl) (hH.ints (k := 10) rfl) _ _ (hH.tens (k := 20) rfl) (by rw [HVC.out])).mono ?_; rintro e16 w16 ⟨rfl, h16⟩
        (try go_simp)
        refine hK.out _ ?_ _ ?_ ?_; rotate_left 2
        · (try simp only [r13, r14, r15]); rfl
        exact ⟨by have hX := hH.grow h16; simpa only [List.set_cons_zero, List.set_cons_succ, updB, updV, blkOf_mk, tup0_mk, partsOf3, Nat.reduceBEq, cond_true, cond_false, hb, d13, d14, d15, r13, r14, r15] using hX, v0, v1, v2, v3, v4, v5, v6, v7, v8, v9, v10, v11, v12, v13, v14, v15, fun _ => rfl, v17, v18, v19, v20, v21, v22, v23, v24, v25, v26, v27⟩
      refine AllSteps.cons (j := 18) rfl (fun b t wx hJ hb hd hcl Kc hK => ?_) ?_
      · obtain ⟨hH, v0, v1, v2, v3, v4, v5, v6, v7, v8, v9, v10, v11, v12, v13, v14, v15, v16, v17, v18, v19, v20, v21, v22, v23, v24, v25, v26, v27⟩ := hJ
        have d13 := hd.out 13 (by kernel_rfl); have d16 := hd.out 16 (by kernel_rfl); have r13 := v13 d13; have r16 := v16 d16; have c_kr_0 := hH.ext.cell kr_0; have c_kr_1 := hH.ext.cell kr_1; have c_kr_2 := hH.ext.cell kr_2
        go_simp
        refine hK.out _ ?_ _ ?_ ?_; rotate_left 2
        · (try simp only [r13, r16]); rfl
        exact ⟨hH, v0, v1, v2, v3, v4, v5, v6, v7, v8, v9, v10, v11, v12, v13, v14, v15, v16, fun _ => rfl, v18, v19, v20, v21, v22, v23, v24, v25, v26, v27⟩
      refine AllSteps.cons (j := 19) rfl (fun b t wx hJ hb hd hcl Kc hK => ?_) ?_
      · obtain ⟨hH, v0, v1, v2, v3, v4, v5, v6, v7, v8, v9, v10, v11, v12, v13, v14, v15, v16, v17, v18, v19, v20, v21, v22, v23, v24, v25, v26, v27⟩ := hJ
        have d16 := hd.out 16 (by kernel_rfl); have d17 := hd.out 17 (by kernel_rfl); have r16 := v16 d16; have r17 := v17 d17; have c_kr_0 := hH.ext.cell kr_0; have c_kr_1 := hH.ext.cell kr_1; have c_kr_2 := hH.ext.cell kr_2
        go_simp
        refine hK.out _ ?_ _ ?_ ?_; rotate_left 2
        · (try simp only [r16, r17]); rfl
        exact ⟨hH, v0, v1, v2, v3, v4, v5, v6, v7, v8, v9, v10, v11, v12, v13, v14, v15, v16, v17, fun _ => rfl, v19, v20, v21, v22, v23, v24, v25, v26, v27⟩
      refine AllSteps.cons (j := 20) rfl (fun b t wx hJ hb hd hcl Kc hK => ?_) ?_
      · obtain ⟨hH, v0, v1, v2, v3, v4, v5, v6, v7, v8, v9, v10, v11, v12, v13, v14, v15, v16, v17, v18, v19, v20, v21, v22, v23, v24, v25, v26, v27⟩ := hJ
        have d18 := hd.out 18 (by kernel_rfl); have r18 := v18 d18; have c_kr_0 := hH.ext.cell kr_0; have c_kr_1 := hH.ext.cell kr_1; have c_kr_2 := hH.ext.cell kr_2; have q15_0 := hH.cl 15 0 rfl rfl; have q15_1 := hH.cl 15 1 rfl rfl; have q15_2 := hH.cl 15 2 rfl rfl; have q15_3 := hH.cl 15 3 rfl rfl; have q15_4 := hH.cl 15 4 rfl rfl
        go_simp
        refine hK.out _ ?_ _ ?_ ?_; rotate_left 2
        · (try simp only [r18]); rfl
        exact ⟨hH, v0, v1, v2, v3, v4, v5, v6, v7, v8, v9, v10, v11, v12, v13, v14, v15, v16, v17, v18, fun _ => rfl, v20, v21, v22, v23, v24, v25, v26, v27⟩
      refine AllSteps.cons (j := 21) rfl (fun b t wx hJ hb hd hcl Kc hK => ?_) ?_
      · obtain ⟨hH, v0, v1, v2, v3, v4, v5, v6, v7, v8, v9, v10, v11, v12, v13, v14, v15, v16, v17, v18, v19, v20, v21, v22, v23, v24, v25, v26, v27⟩ := hJ
        have d18 := hd.out 18 (by kernel_rfl); have r18 := v18 d18; have c_kr_0 := hH.ext.cell kr_0; have c_kr_1 := hH.ext.cell kr_1; have c_kr_2 := hH.ext.cell kr_2
        go_simp
        refine hK.out _ ?_ _ ?_ ?_; rotate_left 2
        · (try simp only [r18]); rfl
        exact ⟨hH, v0, v1, v2, v3, v4, v5, v6, v7, v8, v9, v10, v11, v12, v13, v14, v15, v16, v17, v18, v19, fun _ => rfl, v21, v22, v23, v24, v25, v26, v27⟩
      refine AllSteps.cons (j := 22) rfl (fun b t wx hJ hb hd hcl Kc hK => ?_) ?_
      · obtain ⟨hH, v0, v1, v2, v3, v4, v5, v6, v7, v8, v9, v10, v11, v12, v13, v14, v15, v16, v17, v18, v19, v20, v21, v22, v23, v24, v25, v26, v27⟩ := hJ
        have d18 := hd.out 18 (by kernel_rfl); have r18 := v18 d18; have c_kr_0 := hH.ext.cell kr_0; have c_kr_1 := hH.ext.cell kr_1; have c_kr_2 := hH.ext.cell kr_2; have q0_0 := hH.cl 0 0 rfl rfl; have q0_1 := hH.cl 0 1 rfl rfl; have q0_2 := hH.cl 0 2 rfl rfl; have q0_3 := hH.cl 0 3 rfl rfl; have q0_4 := hH.cl 0 4 rfl rfl
        go_simp
        refine hK.out _ ?_ _ ?_ ?_; rotate_left 2
        · (try simp only [r18]); rfl
        exact ⟨hH, v0, v1, v2, v3, v4, v5, v6, v7, v8, v9, v10, v11, v12, v13, v14, v15, v16, v17, v18, v19, v20, fun _ => rfl, v22, v23, v24, v25, v26, v27⟩
      refine AllSteps.cons (j := 23) rfl (fun b t wx hJ hb hd hcl Kc hK => ?_) ?_
      · obtain ⟨hH, v0, v1, v2, v3, v4, v5, v6, v7, v8, v9, v10, v11, v12, v13, v14, v15, v16, v17, v18, v19, v20, v21, v22, v23, v24, v25, v26, v27⟩ := hJ
        have d18 := hd.out 18 (by kernel_rfl); have d21 := hd.out 21 (by kernel_rfl); have r18 := v18 d18; have r21 := v21 d21
        have hN := hH; (try simp only [hb, d18, d21, cond_true, cond_false] at hN)
        go_simp
        go_at_call 37
        refine (worth_any HR.out HN.out _ _ _ (hT0.ext hH.ext) (hO.ext hH.ext)).mono ?_; rintro e22 w22 ⟨u22, rfl, o22, h22⟩
        rw [HRX.out] at o22
        obtain ⟨pa1, na1, ca1, pa2, na2, ca2, pa3, na3, ca3, rfl⟩ := o22.shape
        (try go_simp)
        refine hK.out _ ?_ _ ?_ ?_; rotate_left 2
        · (try simp only [r18, r21]); rfl
        exact ⟨by have hX := hN.addT 22 h22 o22 (Nat.le_refl _); simpa only [List.set_cons_zero, List.set_cons_succ, updB, updV, blkOf_mk, tup0_mk, partsOf3, Nat.reduceBEq, cond_true, cond_false, hb, d18, d21, r18, r21] using hX, v0, v1, v2, v3, v4, v5, v6, v7, v8, v9, v10, v11, v12, v13, v14, v15, v16, v17, v18, v19, v20, v21, fun _ => ⟨_, _, _, _, _, _, _, _, _, rfl⟩, v23, v24, v25, v26, v27⟩
      refine AllSteps.cons (j := 24) rfl (fun b t wx hJ hb hd hcl Kc hK => ?_) ?_
      · obtain ⟨hH, v0, v1, v2, v3, v4, v5, v6, v7, v8, v9, v10, v11, v12, v13, v14, v15, v16, v17, v18, v19, v20, v21, v22, v23, v24, v25, v26, v27⟩ := hJ
        have d18 := hd.out 18 (by kernel_rfl); have r18 := v18 d18; have c_kr_0 := hH.ext.cell kr_0; have c_kr_1 := hH.ext.cell kr_1; have c_kr_2 := hH.ext.cell kr_2
        go_simp
        refine hK.out _ ?_ _ ?_ ?_; rotate_left 2
        · (try simp only [r18]); rfl
        exact ⟨hH, v0, v1, v2, v3, v4, v5, v6, v7, v8, v9, v10, v11, v12, v13, v14, v15, v16, v17, v18, v19, v20, v21, v22, fun _ => rfl, v24, v25, v26, v27⟩
      refine AllSteps.cons (j := 25) rfl (fun b t wx hJ hb hd hcl Kc hK => ?_) ?_
      · obtain ⟨hH, v0, v1, v2, v3, v4, v5, v6, v7, v8, v9, v10, v11, v12, v13, v14, v15, v16, v17, v18, v19, v20, v21, v22, v23, v24, v25, v26, v27⟩ := hJ
        have d18 := hd.out 18 (by kernel_rfl); have d20 := hd.out 20 (by kernel_rfl); have d22 := hd.out 22 (by kernel_rfl); have d23 := hd.out 23 (by kernel_rfl); have r18 := v18 d18; have r20 := v20 d20; have r22 := v22 d22; have r23 := v23 d23
        obtain ⟨p1_22, n1_22, c1_22, p2_22, n2_22, c2_22, p3_22, n3_22, c3_22, r22⟩ := r22
        have hN := hH; (try simp only [hb, d18, d20, d22, d23, cond_true, cond_false] at hN)
        go_simp
        go_at_call 50
        refine (scaleTensor_any HR.out HTX.out xe _ _ _ (by have h := hN.tens (k := 22) rfl; rw [r22] at h; exact h) (hH.ints (k := 12) rfl)).mono ?_; rintro e24 w24 ⟨u24, rfl, o24, h24⟩
        rw [HSVE.out] at o24
        obtain ⟨pa1, na1, ca1, pa2, na2, ca2, pa3, na3, ca3, rfl⟩ := o24.shape
        (try go_simp)
        refine hK.out _ ?_ _ ?_ ?_; rotate_left 2
        · (try simp only [r18, r20, r22, r23]); rfl
        exact ⟨by have hX := hN.addT 23 h24 o24 (Nat.le_refl _); simpa only [List.set_cons_zero, List.set_cons_succ, updB, updV, blkOf_mk, tup0_mk, partsOf3, Nat.reduceBEq, cond_true, cond_false, hb, d18, d20, d22, d23, r18, r20, r22, r23] using hX, v0, v1, v2, v3, v4, v5, v6, v7, v8, v9, v10, v11, v12, v13, v14, v15, v16, v17, v18, v19, v20, v21, v22, v23, fun _ => ⟨_, _, _, _, _, _, _, _, _, rfl⟩, v25, v26, v27⟩
      refine AllSteps.cons (j := 26) rfl (fun b t wx hJ hb hd hcl Kc hK => ?_) ?_
      · obtain ⟨hH, v0, v1, v2, v3, v4, v5, v6, v7, v8, v9, v10, v11, v12, v13, v14, v15, v16, v17, v18, v19, v20, v21, v22, v23, v24, v25, v26, v27⟩ := hJ
        have d18 := hd.out 18 (by kernel_rfl); have d19 := hd.out 19 (by kernel_rfl); have d24 := hd.out 24 (by kernel_rfl); have r18 := v18 d18; have r19 := v19 d19; have r24 := v24 d24
        obtain ⟨p1_24, n1_24, c1_24, p2_24, n2_24, c2_24, p3_24, n3_24, c3_24, r24⟩ := r24
        have hN := hH; (try simp only [hb, d18, d19, d24, cond_true, cond_false] at hN)
        go_simp
        go_at_call 49
        refine (gives_any HR.out HND.out _ _ _ (hH.tensS (k := 13) rfl) (hH.ints (k := 14) rfl) _ _ (by have h := hN.tens (k := 23) rfl; rw [r24] at h; exact h) (by rw [HSV.out])).mono ?_; rintro e25 w25 ⟨rfl, h25⟩
        (try go_simp)
        refine hK.out _ ?_ _ ?_ ?_; rotate_left 2
        · (try simp only [r18, r19, r24]); rfl
        exact ⟨by have hX := hH.grow h25; simpa only [List.set_cons_zero, List.set_cons_succ, updB, updV, blkOf_mk, tup0_mk, partsOf3, Nat.reduceBEq, cond_true, cond_false, hb, d18, d19, d24, r18, r19, r24] using hX, v0, v1, v2, v3, v4, v5, v6, v7, v8, v9, v10, v11, v12, v13, v14, v15, v16, v17, v18, v19, v20, v21, v22, v23, v24, fun _ => rfl, v26, v27⟩
      refine AllSteps.cons (j := 27) rfl (fun b t wx hJ hb hd hcl Kc hK => ?_) ?_
      · obtain ⟨hH, v0, v1, v2, v3, v4, v5, v6, v7, v8, v9, v10, v11, v12, v13, v14, v15, v16, v17, v18, v19, v20, v21, v22, v23, v24, v25, v26, v27⟩ := hJ
        have d18 := hd.out 18 (by kernel_rfl); have d25 := hd.out 25 (by kernel_rfl)
        have n27 : b 27 = false := Bool.eq_false_iff.2 fun h => absurd (hcl.out 27 26 (by kernel_rfl) (h)) (by rw [hb]; exact Bool.false_ne_true)
        have r18 := v18 d18; have r25 := v25 d25; have c_kr_0 := hH.ext.cell kr_0; have c_kr_1 := hH.ext.cell kr_1; have c_kr_2 := hH.ext.cell kr_2
        go_simp
        refine hK.out _ ?_ _ ?_ ?_; rotate_left 2
        · (try simp only [r18, r25]); rfl
        exact ⟨hH, v0, v1, v2, v3, v4, v5, v6, v7, v8, v9, v10, v11, v12, v13, v14, v15, v16, v17, v18, v19, v20, v21, v22, v23, v24, v25, fun _ => rfl, fun h => absurd (show b 27 = true from h) (by rw [n27]; exact Bool.false_ne_true)⟩
      refine AllSteps.cons (j := 28) rfl (fun b t wx hJ hb hd hcl Kc hK => ?_) ?_
      · obtain ⟨hH, v0, v1, v2, v3, v4, v5, v6, v7, v8, v9, v10, v11, v12, v13, v14, v15, v16, v17, v18, v19, v20, v21, v22, v23, v24, v25, v26, v27⟩ := hJ
        have d0 := hd.out 0 (by kernel_rfl); have d1 := hd.out 1 (by kernel_rfl); have d2 := hd.out 2 (by kernel_rfl); have d3 := hd.out 3 (by kernel_rfl); have d4 := hd.out 4 (by kernel_rfl); have d5 := hd.out 5 (by kernel_rfl); have d6 := hd.out 6 (by kernel_rfl); have d7 := hd.out 7 (by kernel_rfl); have d8 := hd.out 8 (by kernel_rfl); have d9 := hd.out 9 (by kernel_rfl); have d10 := hd.out 10 (by kernel_rfl); have d11 := hd.out 11 (by kernel_rfl); have d12 := hd.out 12 (by kernel_rfl); have d13 := hd.out 13 (by kernel_rfl); have d14 := hd.out 14 (by kernel_rfl); have d15 := hd.out 15 (by kernel_rfl); have d16 := hd.out 16 (by kernel_rfl); have d17 := hd.out 17 (by kernel_rfl); have d18 := hd.out 18 (by kernel_rfl); have d19 := hd.out 19 (by kernel_rfl); have d20 := hd.out 20 (by kernel_rfl); have d21 := hd.out 21 (by kernel_rfl); have d22 := hd.out 22 (by kernel_rfl); have d23 := hd.out 23 (by kernel_rfl); have d24 := hd.out 24 (by kernel_rfl); have d25 := hd.out 25 (by kernel_rfl); have d26 := hd.out 26 (by kernel_rfl); have r0 := v0 d0; have r1 := v1 d1; have r2 := v2 d2; have r3 := v3 d3; have r4 := v4 d4; have r5 := v5 d5; have r6 := v6 d6; have r7 := v7 d7; have r8 := v8 d8; have r9 := v9 d9; have r10 := v10 d10; have r11 := v11 d11; have r12 := v12 d12; have r13 := v13 d13; have r14 := v14 d14; have r15 := v15 d15; have r16 := v16 d16; have r17 := v17 d17; have r18 := v18 d18; have r19 := v19 d19; have r20 := v20 d20; have r21 := v21 d21; have r22 := v22 d22; have r23 := v23 d23; have r24 := v24 d24; have r25 := v25 d25; have r26 := v26 d26
        obtain ⟨p1_22, n1_22, c1_22, p2_22, n2_22, c2_22, p3_22, n3_22, c3_22, r22⟩ := r22
        obtain ⟨p1_24, n1_24, c1_24, p2_24, n2_24, c2_24, p3_24, n3_24, c3_24, r24⟩ := r24
        have c_kr_0 := hH.ext.cell kr_0; have c_kr_1 := hH.ext.cell kr_1; have c_kr_2 := hH.ext.cell kr_2
        go_simp
        refine hK.out _ ?_ _ ?_ ?_; rotate_left 2
        · (try simp only [r0, r1, r2, r3, r4, r5, r6, r7, r8, r9, r10, r11, r12, r13, r14, r15, r16, r17, r18, r19, r20, r21, r22, r23, r24, r25, r26]); rfl
        exact ⟨hH, v0, v1, v2, v3, v4, v5, v6, v7, v8, v9, v10, v11, v12, v13, v14, v15, v16, v17, v18, v19, v20, v21, v22, v23, v24, v25, v26, fun _ => (by first | rfl | exact r26.symm)⟩
      exact AllSteps.nil
    case hEe =>
     intro b t we hJ hall
     obtain ⟨hHe, v0, v1, v2, v3, v4, v5, v6, v7, v8, v9, v10, v11, v12, v13, v14, v15, v16, v17, v18, v19, v20, v21, v22, v23, v24, v25, v26, v27⟩ := hJ
     have a0 := hall 0 (by decide); have a1 := hall 1 (by decide); have a2 := hall 2 (by decide); have a3 := hall 3 (by decide); have a4 := hall 4 (by decide); have a5 := hall 5 (by decide); have a6 := hall 6 (by decide); have a7 := hall 7 (by decide); have a8 := hall 8 (by decide); have a9 := hall 9 (by decide); have a10 := hall 10 (by decide); have a11 := hall 11 (by decide); have a12 := hall 12 (by decide); have a13 := hall 13 (by decide); have a14 := hall 14 (by decide); have a15 := hall 15 (by decide); have a16 := hall 16 (by decide); have a17 := hall 17 (by decide); have a18 := hall 18 (by decide); have a19 := hall 19 (by decide); have a20 := hall 20 (by decide); have a21 := hall 21 (by decide); have a22 := hall 22 (by decide); have a23 := hall 23 (by decide); have a24 := hall 24 (by decide); have a25 := hall 25 (by decide); have a26 := hall 26 (by decide); have a27 := hall 27 (by decide)
     (try simp only [a0, a1, a2, a3, a4, a5, a6, a7, a8, a9, a10, a11, a12, a13, a14, a15, a16, a17, a18, a19, a20, a21, a22, a23, a24, a25, a26, a27, cond_true] at hHe)
     replace v0 := v0 a0; replace v1 := v1 a1; replace v2 := v2 a2; replace v3 := v3 a3; replace v4 := v4 a4; replace v5 := v5 a5; replace v6 := v6 a6; replace v7 := v7 a7; replace v8 := v8 a8; replace v9 := v9 a9; replace v10 := v10 a10; replace v11 := v11 a11; replace v12 := v12 a12; replace v13 := v13 a13; replace v14 := v14 a14; replace v15 := v15 a15; replace v16 := v16 a16; replace v17 := v17 a17; replace v18 := v18 a18; replace v19 := v19 a19; replace v20 := v20 a20; replace v21 := v21 a21; replace v22 := v22 a22; replace v23 := v23 a23; replace v24 := v24 a24; replace v25 := v25 a25; replace v26 := v26 a26; replace v27 := v27 a27
     clear hall a0 a1 a2 a3 a4 a5 a6 a7 a8 a9 a10 a11 a12 a13 a14 a15 a16 a17 a18 a19 a20 a21 a22 a23 a24 a25 a26 a27
     generalize t 27 = x27 at hHe v27 ⊢; generalize t 26 = x26 at hHe v26 v27 ⊢; generalize t 25 = x25 at hHe v25 ⊢; generalize t 24 = x24 at hHe v24 ⊢; generalize t 23 = x23 at hHe v23 ⊢; generalize t 22 = x22 at hHe v22 ⊢; generalize t 21 = x21 at hHe v21 ⊢; generalize t 20 = x20 at hHe v20 ⊢; generalize t 19 = x19 at hHe v19 ⊢; generalize t 18 = x18 at hHe v18 ⊢; generalize t 17 = x17 at hHe v17 ⊢; generalize t 16 = x16 at hHe v16 ⊢; generalize t 15 = x15 at hHe v15 ⊢; generalize t 14 = x14 at hHe v14 ⊢; generalize t 13 = x13 at hHe v13 ⊢; generalize t 12 = x12 at hHe v12 ⊢; generalize t 11 = x11 at hHe v11 ⊢; generalize t 10 = x10 at hHe v10 ⊢; generalize t 9 = x9 at hHe v9 ⊢; generalize t 8 = x8 at hHe v8 ⊢; generalize t 7 = x7 at hHe v7 ⊢; generalize t 6 = x6 at hHe v6 ⊢; generalize t 5 = x5 at hHe v5 ⊢; generalize t 4 = x4 at hHe v4 ⊢; generalize t 3 = x3 at hHe v3 ⊢; generalize t 2 = x2 at hHe v2 ⊢; generalize t 1 = x1 at hHe v1 ⊢; generalize t 0 = x0 at hHe v0 ⊢; subst v0; subst v1; subst v2; subst v3; subst v4; subst v5; subst v6; subst v7; subst v8; subst v9; subst v10; subst v11; subst v12; subst v13; subst v14; subst v15; subst v16; subst v17; subst v18; subst v19; subst v20; subst v21
     obtain ⟨p1e22, n1e22, c1e22, p2e22, n2e22, c2e22, p3e22, n3e22, c3e22, rfl⟩ := v22
     subst v23
     obtain ⟨p1e24, n1e24, c1e24, p2e24, n2e24, c2e24, p3e24, n3e24, c3e24, rfl⟩ := v24
     subst v25; subst v26; subst v27
     clear b
     replace hH := hHe; clear hHe
     replace hH : Held wN we [aB (wN.heap.size) 29 [.int .i64 k, .int .i64 p, .int .i64 n, .slice aV m cV, .slice aO op.length cO], aTs (.slice aW mB cW) csB (ms.map (tenOf dimOf)), aI (.slice aQ mop.length cQ) mop, aB (wn4.heap.size) 29 [.int .i64 k, .int .i64 p, .int .i64 n, .slice aW mB cW, .slice aQ mop.length cQ], aI (.slice (some ⟨wa1.heap.size, 0, none⟩) 6 6) [0, 1, 2, 3, 4, 5], aI (.slice an 6 cn) NJ, aTs (.slice aBT mB cBT) csb (BT.map (tenOf dm12)), aI (.slice aBO BO.length cBO) BO, aB (wn8.heap.size) 29 [.int .i64 k, .int .i64 p, .int .i64 n, .slice aBT mB cBT, .slice aBO BO.length cBO], aTs (.slice aC mc cC) csc (TC.map (tenOf dm12)), aI (.slice aCO op.length cCO) op, aB (wn10.heap.size) 29 [.int .i64 k, .int .i64 p, .int .i64 n, .slice aC mc cC, .slice aCO op.length cCO], aI (.slice ax nx cx) xe.1, aTs (.slice aD md cD) csd (TD.map (tenOf dimOf)), aI (.slice aDO op.length cDO) op, aB (wn13.heap.size) 29 [.int .i64 k, .int .i64 p, .int .i64 n, .slice aD md cD, .slice aDO op.length cDO], aT (.agg #[.slice p1a2 n1a2 c1a2, .slice p2a2 n2a2 c2a2, .slice p3a2 n3a2 c3a2]) op (op.map dm12) (flat VN), aT (.agg #[.slice p1a4 n1a4 c1a4, .slice p2a4 n2a4 c2a4, .slice p3a4 n3a4 c3a4]) BO (BO.map dm12) (flat VB), aT (.agg #[.slice p1a7 n1a7 c1a7, .slice p2a7 n2a7 c2a7, .slice p3a7 n3a7 c3a7]) YL (YL.map dm12) (flat YX), aB qa11 32 [.slice p1a7 n1a7 c1a7, .slice p2a7 n2a7 c2a7, .slice p3a7 n3a7 c3a7], aT (.agg #[.slice zp1 zn1 zc1, .slice zp2 zn2 zc2, .slice zp3 zn3 zc3]) op (op.map dm12) (flat VC), aB (wn15.heap.size) 32 [.slice zp1 zn1 zc1, .slice zp2 zn2 zc2, .slice zp3 zn3 zc3], aT (.agg #[.slice p1e22 n1e22 c1e22, .slice p2e22 n2e22 c2e22, .slice p3e22 n3e22 c3e22]) op (op.map dimOf) (flat RX), aT (.agg #[.slice p1e24 n1e24 c1e24, .slice p2e24 n2e24 c2e24, .slice p3e24 n3e24 c3e24]) op (op.map dimOf) (flat SV)] := hH
     have HE := Lib.hid (E0.trans hH.ext); clear hH
     go_wp2
     go_ret
     exact ⟨rfl, HE.out⟩
end Go.Proofs.Ytpegckmagiaggaa
