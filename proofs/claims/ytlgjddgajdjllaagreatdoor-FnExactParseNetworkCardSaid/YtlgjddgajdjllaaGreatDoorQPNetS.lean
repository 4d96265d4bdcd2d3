/- ParseNetwork of the reference. -/
import Derived.Test.YtlgjddgajdjllaaGreatDoorQPNetH
set_option linter.unusedSimpArgs false
set_option linter.unusedVariables false
namespace Go.Proofs.YtlgjddgajdjllaaGreatDoor
open Go.RowKit
open Go.Lib
set_option maxRecDepth 100000 in
set_option maxHeartbeats 8000000 in
theorem parseNetwork_spec (s : ByteArray) (w : World) (hs : s.size ≤ 10000000) : Calls Tryz.prog 11 #[.string s] w fun e w' => PNR s.data.toList w w' e := by
 obtain ⟨ls, hls⟩ : ∃ ls, linesL s.data.toList = ls := ⟨_, rfl⟩
 have HPL : Hid (∀ q ∈ ls, q.length ≤ s.size) := Lib.hid fun q hq => by rw [← hls] at hq; have := lines_mem_le hq; rwa [slen] at this
 have HA : Hid (∀ w, Calls Tryz.prog 33 #[.string s] w fun e w' => ∃ v, e = .returned v ∧ OwnStr w' w.heap.size v (mkSs ls) ∧ Ext w w') := Lib.hid fun w => by
  have := lines_spec s w (by omega)
  rwa [hls] at this
 have HLS := Lib.hid hls; clear hls
 obtain ⟨nl, hnl⟩ : ∃ nl, ls.length = nl := ⟨_, rfl⟩
 have HNL := Lib.hid hnl; clear hnl
 go_enter Tryz.func11, Tryz.ntmps11
 go_upto_region 1 with fail
 have hH : Held w w [] := Held.new (Ext.refl w) 0
 have hB : Held w (w.alloc (.cells #[.int .i64 0, .int .i64 0, .int .i64 0, .slice none 0 0, .slice none 0 0] 29)) [aB (w.heap.size) 29 [.int .i64 0, .int .i64 0, .int .i64 0, .slice none 0 0, .slice none 0 0]] := by
  have h := (hH.mores 1).addB 0 #[.int .i64 0, .int .i64 0, .int .i64 0, .slice none 0 0, .slice none 0 0] 29
  exact h
 have hsz : (w.alloc (.cells #[.int .i64 0, .int .i64 0, .int .i64 0, .slice none 0 0, .slice none 0 0] 29)).heap.size = w.heap.size + 1 := by simp
 generalize w.alloc (.cells #[.int .i64 0, .int .i64 0, .int .i64 0, .slice none 0 0, .slice none 0 0] 29) = wn1 at hB hsz ⊢
 replace hH := hB; have HSZwn1 := Lib.hid hsz; clear hB hsz
 obtain ⟨wz, rfl⟩ : ∃ q, q = wn1 := ⟨wn1, rfl⟩
 obtain ⟨q0_0, q0_1, q0_2, q0_3, q0_4, l0_⟩ := hH.c5 0 rfl
 go_wp2_with fail
 clear q0_0 q0_1 q0_2 q0_3 q0_4 l0_
 refine (HA.out _).mono ?_; rintro ewn2 wn2 ⟨v1, rfl, oL, hwn2⟩
 replace hH : Held w wn2 [aB (w.heap.size) 29 [.int .i64 0, .int .i64 0, .int .i64 0, .slice none 0 0, .slice none 0 0], aS v1 (mkSs ls)] := (hH.mores 1).addS 1 hwn2 oL (Nat.le_refl _)
 clear hwn2
 obtain ⟨aL, cL, hv1, hcL1, hcL2⟩ := (hH.ownS (k := 1) rfl).strs.val
 rw [mkSs_length, HNL.out] at hv1 hcL1
 subst hv1
 by_cases h2 : nl < 2
 ·
  have hI : (nl : Int) < 2 := by omega
  have HNO := Lib.hid (NP.len (s := s.data.toList) (.inl (by rw [HLS.out, HNL.out]; exact h2)))
  obtain ⟨q0_0, q0_1, q0_2, q0_3, q0_4, l0_⟩ := hH.c5 0 rfl; have f0_0 := hH.fr 0 0 rfl; have f0_1 := hH.fr 0 1 rfl; have f0_2 := hH.fr 0 2 rfl; have f0_3 := hH.fr 0 3 rfl; have f0_4 := hH.fr 0 4 rfl
  have HH := Lib.hid hH
  go_upto_region 3 with fail
  repeat go_step
  refine bodyPost_ret (v := .tuple #[.agg #[.int .i64 0, .int .i64 0, .int .i64 0, .slice none 0 0, .slice none 0 0], .bool false]) (by simp [results, Tryz.results11, go_sem, *]) rfl ?_
  exact PNR.fail HNO.out (HH.out.setB5 (k := 0) rfl (.int .i64 0) (.int .i64 0) (.int .i64 0) (.slice none 0 0) (.slice none 0 0))
 ·
  by_cases h14 : 14 < nl
  ·
   have hI : ¬ (nl : Int) < 2 := by omega
   have hI2 : (14 : Int) < (nl : Int) := by omega
   have HNO := Lib.hid (NP.len (s := s.data.toList) (.inr (by rw [HLS.out, HNL.out]; exact h14)))
   obtain ⟨q0_0, q0_1, q0_2, q0_3, q0_4, l0_⟩ := hH.c5 0 rfl; have f0_0 := hH.fr 0 0 rfl; have f0_1 := hH.fr 0 1 rfl; have f0_2 := hH.fr 0 2 rfl; have f0_3 := hH.fr 0 3 rfl; have f0_4 := hH.fr 0 4 rfl
   have HH := Lib.hid hH
   go_upto_region 3 with fail
   repeat go_step
   refine bodyPost_ret (v := .tuple #[.agg #[.int .i64 0, .int .i64 0, .int .i64 0, .slice none 0 0, .slice none 0 0], .bool false]) (by simp [results, Tryz.results11, go_sem, *]) rfl ?_
   exact PNR.fail HNO.out (HH.out.setB5 (k := 0) rfl (.int .i64 0) (.int .i64 0) (.int .i64 0) (.slice none 0 0) (.slice none 0 0))
  ·
   have hI : ¬ (nl : Int) < 2 := by omega
   have hI2 : ¬ (14 : Int) < (nl : Int) := by omega
   have hJ0 : (0 : Int) < (nl : Int) := by omega
   have hJ1 : (1 : Int) < (nl : Int) := by omega
   have hJ2 : 0 < nl := by omega
   have hJ3 : 1 < nl := by omega
   obtain ⟨a, ha⟩ : ∃ a, ls[0]? = some a := ⟨_, List.getElem?_eq_getElem (by rw [HNL.out]; omega)⟩
   obtain ⟨b, hb⟩ : ∃ b, ls[1]? = some b := ⟨_, List.getElem?_eq_getElem (by rw [HNL.out]; omega)⟩
   obtain ⟨bL, rfl⟩ := hH.lineAt (k := 1) rfl ha
   obtain ⟨z0, hz0⟩ : ∃ z, mkS a = z := ⟨_, rfl⟩
   obtain ⟨z1, hz1⟩ : ∃ z, mkS b = z := ⟨_, rfl⟩
   have hs0 : z0.size ≤ s.size := by rw [← hz0]; exact line_known HPL.out ha
   have hs1 : z1.size ≤ s.size := by rw [← hz1]; exact line_known HPL.out hb
   have HZ0 : Hid (z0.data.toList = a) := Lib.hid (by rw [← hz0, mkS_list])
   have HZ1 : Hid (z1.data.toList = b) := Lib.hid (by rw [← hz1, mkS_list])
   have HL0 : Hid ((linesL s.data.toList)[0]? = some a) := Lib.hid (by rw [HLS.out]; exact ha)
   have HL1 : Hid ((linesL s.data.toList)[1]? = some b) := Lib.hid (by rw [HLS.out]; exact hb)
   have HYA := Lib.hid ha; have HYB := Lib.hid hb; have HY0 := Lib.hid hz0; have HY1 := Lib.hid hz1
   clear ha hb hz0 hz1 h2 h14
   obtain ⟨q0_0, q0_1, q0_2, q0_3, q0_4, l0_⟩ := hH.c5 0 rfl
   have c_l0 := hH.lineC (k := 1) rfl HYA.out HY0.out
   have c_l1 := hH.lineC (k := 1) rfl HYB.out HY1.out
   go_wp2_with fail
   clear q0_0 q0_1 q0_2 q0_3 q0_4 l0_ c_l0 c_l1
   refine (parseRing_spec z0 _ (by omega)).mono ?_; rintro ewn3 wn3 ⟨⟨k, p, n, okr, rfl, hrp, hwn3⟩⟩
   rw [HZ0.out] at hrp
   replace hH : Held w wn3 [aB (w.heap.size) 29 [.int .i64 0, .int .i64 0, .int .i64 0, .slice none 0 0, .slice none 0 0], aS (.slice (some ⟨bL, 0, none⟩) nl cL) (mkSs ls)] := hH.grow hwn3
   clear hwn3
   obtain ⟨q0_0, q0_1, q0_2, q0_3, q0_4, l0_⟩ := hH.c5 0 rfl
   have c_l0 := hH.lineC (k := 1) rfl HYA.out HY0.out
   have c_l1 := hH.lineC (k := 1) rfl HYB.out HY1.out
   go_upto_region 5 with fail
   clear q0_0 q0_1 q0_2 q0_3 q0_4 l0_ c_l0 c_l1
   have hB : Held w (wn3.alloc (.cells #[.int .i64 k, .int .i64 p, .int .i64 n] 24)) [aB (w.heap.size) 29 [.int .i64 0, .int .i64 0, .int .i64 0, .slice none 0 0, .slice none 0 0], aS (.slice (some ⟨bL, 0, none⟩) nl cL) (mkSs ls), aB (wn3.heap.size) 24 [.int .i64 k, .int .i64 p, .int .i64 n]] := by
    have h := (hH.mores 1).addB 2 #[.int .i64 k, .int .i64 p, .int .i64 n] 24
    exact h
   have hsz : (wn3.alloc (.cells #[.int .i64 k, .int .i64 p, .int .i64 n] 24)).heap.size = wn3.heap.size + 1 := by simp
   generalize wn3.alloc (.cells #[.int .i64 k, .int .i64 p, .int .i64 n] 24) = wn4 at hB hsz ⊢
   replace hH := hB; have HSZwn4 := Lib.hid hsz; clear hB hsz
   obtain ⟨wy, rfl⟩ : ∃ q, q = wn4 := ⟨wn4, rfl⟩
   obtain ⟨q0_0, q0_1, q0_2, q0_3, q0_4, l0_⟩ := hH.c5 0 rfl; obtain ⟨q2_0, q2_1, q2_2, l2_⟩ := hH.c3 2 rfl
   have c_l0 := hH.lineC (k := 1) rfl HYA.out HY0.out
   have c_l1 := hH.lineC (k := 1) rfl HYB.out HY1.out
   go_wp2_with fail
   clear q0_0 q0_1 q0_2 q0_3 q0_4 l0_ q2_0 q2_1 q2_2 l2_ c_l0 c_l1
   obtain ⟨ws, hws⟩ : ∃ ws, wordsL b = ws := ⟨_, rfl⟩
   have HPW : Hid (∀ q ∈ ws, q.length ≤ s.size) := Lib.hid fun q hq => by rw [← hws] at hq; have := words_mem_le hq; rw [← HZ1.out, slen] at this; omega
   have HWL : Hid (ws.length ≤ s.size + 1) := Lib.hid (by rw [← hws]; have := words_le b; rw [← HZ1.out, slen] at this; rw [HZ1.out] at this; omega)
   have HWA : Hid (∀ w, Calls Tryz.prog 35 #[.string z1] w fun e w' => ∃ v, e = .returned v ∧ OwnStr w' w.heap.size v (mkSs ws) ∧ Ext w w') := Lib.hid fun w => by
    have := words_spec z1 w (by omega)
    rwa [HZ1.out, hws] at this
   have HWS := Lib.hid hws; clear hws
   obtain ⟨nw, hnw⟩ : ∃ nw, ws.length = nw := ⟨_, rfl⟩
   have HNW := Lib.hid hnw; clear hnw
   refine (HWA.out _).mono ?_; rintro ewn5 wn5 ⟨v5, rfl, oW, hwn5⟩
   replace hH : Held w wn5 [aB (w.heap.size) 29 [.int .i64 0, .int .i64 0, .int .i64 0, .slice none 0 0, .slice none 0 0], aS (.slice (some ⟨bL, 0, none⟩) nl cL) (mkSs ls), aB (wn3.heap.size) 24 [.int .i64 k, .int .i64 p, .int .i64 n], aS v5 (mkSs ws)] := (hH.mores 1).addS 3 hwn5 oW (Nat.le_refl _)
   clear hwn5
   obtain ⟨aW, cW, hv5, hcW1, hcW2⟩ := (hH.ownS (k := 3) rfl).strs.val
   rw [mkSs_length, HNW.out] at hv5 hcW1
   subst hv5
   cases okr
   ·
    have HNO := Lib.hid (NP.ring HL0.out hrp); clear hrp
    obtain ⟨q0_0, q0_1, q0_2, q0_3, q0_4, l0_⟩ := hH.c5 0 rfl; have f0_0 := hH.fr 0 0 rfl; have f0_1 := hH.fr 0 1 rfl; have f0_2 := hH.fr 0 2 rfl; have f0_3 := hH.fr 0 3 rfl; have f0_4 := hH.fr 0 4 rfl; obtain ⟨q2_0, q2_1, q2_2, l2_⟩ := hH.c3 2 rfl
    have c_l0 := hH.lineC (k := 1) rfl HYA.out HY0.out
    have c_l1 := hH.lineC (k := 1) rfl HYB.out HY1.out
    have HH := Lib.hid hH
    go_upto_region 7 with fail
    repeat go_step
    refine bodyPost_ret (v := .tuple #[.agg #[.int .i64 0, .int .i64 0, .int .i64 0, .slice none 0 0, .slice none 0 0], .bool false]) (by simp [results, Tryz.results11, go_sem, *]) rfl ?_
    exact PNR.fail HNO.out (HH.out.setB5 (k := 0) rfl (.int .i64 0) (.int .i64 0) (.int .i64 0) (.slice none 0 0) (.slice none 0 0))
   ·
    have HRP := Lib.hid hrp; clear hrp
    by_cases hw1 : nw < 1
    ·
     have hwi : (nw : Int) < 1 := by omega
     have HNO := Lib.hid (NP.noW HL1.out (by unfold opW; rw [HWS.out, List.eq_nil_of_length_eq_zero (l := ws) (by rw [HNW.out]; omega)]))
     obtain ⟨q0_0, q0_1, q0_2, q0_3, q0_4, l0_⟩ := hH.c5 0 rfl; have f0_0 := hH.fr 0 0 rfl; have f0_1 := hH.fr 0 1 rfl; have f0_2 := hH.fr 0 2 rfl; have f0_3 := hH.fr 0 3 rfl; have f0_4 := hH.fr 0 4 rfl; obtain ⟨q2_0, q2_1, q2_2, l2_⟩ := hH.c3 2 rfl
     have c_l0 := hH.lineC (k := 1) rfl HYA.out HY0.out
     have c_l1 := hH.lineC (k := 1) rfl HYB.out HY1.out
     have HH := Lib.hid hH
     go_upto_region 7 with fail
     repeat go_step
     refine bodyPost_ret (v := .tuple #[.agg #[.int .i64 0, .int .i64 0, .int .i64 0, .slice none 0 0, .slice none 0 0], .bool false]) (by simp [results, Tryz.results11, go_sem, *]) rfl ?_
     exact PNR.fail HNO.out (HH.out.setB5 (k := 0) rfl (.int .i64 0) (.int .i64 0) (.int .i64 0) (.slice none 0 0) (.slice none 0 0))
    ·
     have hwi : ¬ (nw : Int) < 1 := by omega
     obtain ⟨wf, wt, hwt⟩ : ∃ x y, ws = x :: y := by
      have h := HNW.out
      cases hz : ws with
      | nil => rw [hz] at h; simp at h; omega
      | cons x y => exact ⟨x, y, rfl⟩
     obtain ⟨bW, rfl⟩ := hH.lineAt (k := 3) rfl (i := 0) (x := wf) (by rw [hwt]; rfl)
     have HWT := Lib.hid hwt
     have HOW : Hid (opW b = wt.mapM parseI) := Lib.hid (by unfold opW; rw [HWS.out, hwt])
     obtain ⟨mw, hmw⟩ : ∃ q, nw - 1 = q := ⟨_, rfl⟩
     have HMW : Hid (wt.length = mw) := Lib.hid (by have := HNW.out; rw [hwt, List.length_cons] at this; omega)
     have hmwb : mw ≤ 10000001 := by have := HWL.out; have := HNW.out; omega
     obtain ⟨cX, hcX⟩ : ∃ c, cW - 1 = c := ⟨_, rfl⟩
     clear hwt
     obtain ⟨q0_0, q0_1, q0_2, q0_3, q0_4, l0_⟩ := hH.c5 0 rfl; obtain ⟨q2_0, q2_1, q2_2, l2_⟩ := hH.c3 2 rfl
     go_upto_region 9 with fail
     clear q0_0 q0_1 q0_2 q0_3 q0_4 l0_ q2_0 q2_1 q2_2 l2_
     have hB : Held w (wn5.alloc (.cells #[.int .i64 k, .int .i64 p, .int .i64 n, .slice none 0 0, .slice none 0 0] 29)) [aB (w.heap.size) 29 [.int .i64 0, .int .i64 0, .int .i64 0, .slice none 0 0, .slice none 0 0], aS (.slice (some ⟨bL, 0, none⟩) nl cL) (mkSs ls), aB (wn3.heap.size) 24 [.int .i64 k, .int .i64 p, .int .i64 n], aS (.slice (some ⟨bW, 0, none⟩) nw cW) (mkSs ws), aB (wn5.heap.size) 29 [.int .i64 k, .int .i64 p, .int .i64 n, .slice none 0 0, .slice none 0 0]] := by
      have h := (hH.mores 1).addB 4 #[.int .i64 k, .int .i64 p, .int .i64 n, .slice none 0 0, .slice none 0 0] 29
      exact h
     have hsz : (wn5.alloc (.cells #[.int .i64 k, .int .i64 p, .int .i64 n, .slice none 0 0, .slice none 0 0] 29)).heap.size = wn5.heap.size + 1 := by simp
     generalize wn5.alloc (.cells #[.int .i64 k, .int .i64 p, .int .i64 n, .slice none 0 0, .slice none 0 0] 29) = wn6 at hB hsz ⊢
     replace hH := hB; have HSZwn6 := Lib.hid hsz; clear hB hsz
     obtain ⟨wx, rfl⟩ : ∃ q, q = wn6 := ⟨wn6, rfl⟩
     go_cut [50, 51, 52] from 17 (fun x y z wq => ∃ o, x = .slice (some ⟨bW, o, none⟩) mw cX ∧ (0 < mw → o = 1) ∧ y = .int .i64 (mw : Int) ∧ z = .int .i64 0 ∧ wq = wx)
     case first =>
      have hlo : 1 ≤ nw := by omega
      have hlo2 : (1 : Int) ≤ (nw : Int) := by omega
      by_cases hc2 : cW = 1
      · subst hc2; obtain rfl : cX = 0 := by omega
        go_wp2_with fail; go_meet; exact ⟨_, rfl, fun h => by omega, rfl, rfl, rfl⟩
      · go_wp2_with fail; go_meet; exact ⟨_, rfl, fun h => rfl, rfl, rfl, rfl⟩
     case rest =>
      obtain ⟨ow, rfl, how, rfl, rfl, hwc⟩ := hcut
      rw [hwc]; clear hwc
      replace hH := hH.nilI
      replace hH : Held w wx [aB (w.heap.size) 29 [.int .i64 0, .int .i64 0, .int .i64 0, .slice none 0 0, .slice none 0 0], aS (.slice (some ⟨bL, 0, none⟩) nl cL) (mkSs ls), aB (wn3.heap.size) 24 [.int .i64 k, .int .i64 p, .int .i64 n], aS (.slice (some ⟨bW, 0, none⟩) nw cW) (mkSs ws), aB (wn5.heap.size) 29 [.int .i64 k, .int .i64 p, .int .i64 n, .slice none 0 0, .slice none 0 0], aI (.slice none 0 0) []] := hH
      go_wp2_with fail
      go_loopw [52] (fun i wr => ∃ (jw : Nat) (O : List Int) (ov : Value), jw ≤ mw ∧ i = .int .i64 (jw : Int) ∧ Hid (O.length = jw) ∧ Hid ((wt.take jw).mapM parseI = some O) ∧ Held w wr [aB (w.heap.size) 29 [.int .i64 0, .int .i64 0, .int .i64 0, .slice none 0 0, .slice none 0 0], aS (.slice (some ⟨bL, 0, none⟩) nl cL) (mkSs ls), aB (wn3.heap.size) 24 [.int .i64 k, .int .i64 p, .int .i64 n], aS (.slice (some ⟨bW, 0, none⟩) nw cW) (mkSs ws), aB (wn5.heap.size) 29 [.int .i64 k, .int .i64 p, .int .i64 n, .slice none 0 0, ov], aI (ov) O]) (fun i wr => mw - (RowKit.intOf i).toNat)
      case atStart => exact ⟨0, [], _, Nat.zero_le _, rfl, Lib.hid rfl, Lib.hid rfl, hH⟩
      case round =>
       clear hH
       obtain ⟨jw, O, ov, hj, rfl, HOL, HMO, hH⟩ := hrel
       obtain ⟨wu, rfl⟩ : ∃ q, q = wr := ⟨wr, rfl⟩
       obtain ⟨aO, cO, hvO, _, _⟩ := (hH.ints (k := 5) rfl).val
       rw [HOL.out] at hvO
       subst hvO
       by_cases hlt : jw < mw
       ·
        obtain rfl : ow = 1 := how (by omega)
        obtain ⟨x, hx⟩ : ∃ x, wt[jw]? = some x := ⟨_, List.getElem?_eq_getElem (by rw [HMW.out]; exact hlt)⟩
        obtain ⟨zx, hzx⟩ : ∃ z, mkS x = z := ⟨_, rfl⟩
        have HXW : Hid (ws[1 + jw]? = some x) := Lib.hid (by rw [HWT.out, Nat.add_comm, List.getElem?_cons_succ]; exact hx)
        have hsx : zx.size ≤ s.size := by rw [← hzx]; exact line_known HPW.out HXW.out
        have HZX : Hid (zx.data.toList = x) := Lib.hid (by rw [← hzx, mkS_list])
        have HYZ := Lib.hid hzx
        have HTK : Hid (wt.take (jw + 1) = wt.take jw ++ [x]) := Lib.hid (by rw [List.take_add_one, hx]; rfl)
        have HXM := Lib.hid (List.mem_of_getElem? hx)
        clear hx hzx
        obtain ⟨q0_0, q0_1, q0_2, q0_3, q0_4, l0_⟩ := hH.c5 0 rfl; obtain ⟨q2_0, q2_1, q2_2, l2_⟩ := hH.c3 2 rfl; obtain ⟨q4_0, q4_1, q4_2, q4_3, q4_4, l4_⟩ := hH.c5 4 rfl
        have c_lw := hH.lineC (k := 3) rfl HXW.out HYZ.out
        go_wp2_with fail
        clear q0_0 q0_1 q0_2 q0_3 q0_4 l0_ q2_0 q2_1 q2_2 l2_ q4_0 q4_1 q4_2 q4_3 q4_4 l4_ c_lw
        refine (parseInt_spec zx (by omega) _).mono ?_; rintro ewn7 wn7 ⟨rfl, hwn7⟩
        rw [HZX.out]
        replace hH : Held w wn7 [aB (w.heap.size) 29 [.int .i64 0, .int .i64 0, .int .i64 0, .slice none 0 0, .slice none 0 0], aS (.slice (some ⟨bL, 0, none⟩) nl cL) (mkSs ls), aB (wn3.heap.size) 24 [.int .i64 k, .int .i64 p, .int .i64 n], aS (.slice (some ⟨bW, 0, none⟩) nw cW) (mkSs ws), aB (wn5.heap.size) 29 [.int .i64 k, .int .i64 p, .int .i64 n, .slice none 0 0, .slice aO jw cO], aI (.slice aO jw cO) O] := hH.grow hwn7
        clear hwn7
        cases hpi : parseI x with
        | none =>
         have HNO := Lib.hid (NP.noW HL1.out (by rw [HOW.out]; exact mapM_none parseI HXM.out hpi))
         obtain ⟨pvx, hpv⟩ : ∃ q, pv x = q := ⟨_, rfl⟩
         rw [hpv, pib_none' hpi]
         clear hpi hpv
         obtain ⟨q0_0, q0_1, q0_2, q0_3, q0_4, l0_⟩ := hH.c5 0 rfl; have f0_0 := hH.fr 0 0 rfl; have f0_1 := hH.fr 0 1 rfl; have f0_2 := hH.fr 0 2 rfl; have f0_3 := hH.fr 0 3 rfl; have f0_4 := hH.fr 0 4 rfl; obtain ⟨q2_0, q2_1, q2_2, l2_⟩ := hH.c3 2 rfl; obtain ⟨q4_0, q4_1, q4_2, q4_3, q4_4, l4_⟩ := hH.c5 4 rfl
         have HH := Lib.hid hH
         go_upto_region 14 with fail
         repeat go_step
         refine bodyPost_ret (v := .tuple #[.agg #[.int .i64 0, .int .i64 0, .int .i64 0, .slice none 0 0, .slice none 0 0], .bool false]) (by simp [results, Tryz.results11, go_sem, *]) rfl ?_
         exact PNR.fail HNO.out (HH.out.setB5 (k := 0) rfl (.int .i64 0) (.int .i64 0) (.int .i64 0) (.slice none 0 0) (.slice none 0 0))
        | some vx =>
         have HMN : Hid ((wt.take (jw + 1)).mapM parseI = some (O ++ [vx])) := Lib.hid (by rw [HTK.out]; exact mapM_snoc parseI HMO.out hpi)
         have HON : Hid ((O ++ [vx]).length = jw + 1) := Lib.hid (by rw [List.length_append, List.length_singleton, HOL.out])
         rw [(pib_some' hpi).1, (pib_some' hpi).2]
         clear hpi
         obtain ⟨q0_0, q0_1, q0_2, q0_3, q0_4, l0_⟩ := hH.c5 0 rfl; obtain ⟨q2_0, q2_1, q2_2, l2_⟩ := hH.c3 2 rfl; obtain ⟨q4_0, q4_1, q4_2, q4_3, q4_4, l4_⟩ := hH.c5 4 rfl; have f4_0 := hH.fr 4 0 rfl; have f4_1 := hH.fr 4 1 rfl; have f4_2 := hH.fr 4 2 rfl; have f4_3 := hH.fr 4 3 rfl; have f4_4 := hH.fr 4 4 rfl
         go_wp2_with (at_builtin; refine wpList_app _ rfl _ _ 27 rfl _ _ rfl rfl _ (run_push _ _ w.heap.size _ O vx (hH.own (k := 5) rfl) (by rw [HOL.out]; omega) hH.size) ?_; rintro v6 w6 ⟨o6, g6, n6⟩; have hHp := hH.pushed (k := 5) rfl o6 g6 n6; obtain ⟨a6, c6, hv6, _, _⟩ := o6.ints.val; rw [HON.out] at hv6; subst hv6; have yB := hHp.blk (k := 4) rfl; have yl := yB.lt; have y4 := yB.cell (j := 4) rfl; have y4f := yB.free 4; clear yB)
         go_roundw
         case rel => exact ⟨jw + 1, _, _, by omega, by go_num, HON, HMN, hHp.setB (k := 4) rfl 4 (.slice a6 (jw + 1) c6)⟩
         case measure => simp [RowKit.intOf]; omega
       ·
        have hje : jw = mw := by omega
        have HOO : Hid (opW b = some O) := Lib.hid (by rw [HOW.out, ← HMO.out, hje, ← HMW.out, List.take_length])
        have hol : O.length ≤ 1000000000 := by rw [HOL.out]; omega
        have HRD := Lib.hid (Rd.startW HL0.out HRP.out HL1.out HOO.out)
        have HR := Lib.hid HRD.out.ring
        subst hje
        clear hlt hj how HMO
        obtain ⟨wb, rfl⟩ : ∃ q, q = wu := ⟨wu, rfl⟩
        obtain ⟨m, hm⟩ : ∃ m, nl - 2 = m := ⟨_, rfl⟩
        obtain ⟨cM, hcM⟩ : ∃ c, cL - 2 = c := ⟨_, rfl⟩
        obtain ⟨q0_0, q0_1, q0_2, q0_3, q0_4, l0_⟩ := hH.c5 0 rfl; obtain ⟨q2_0, q2_1, q2_2, l2_⟩ := hH.c3 2 rfl; obtain ⟨q4_0, q4_1, q4_2, q4_3, q4_4, l4_⟩ := hH.c5 4 rfl
        go_upto_region 17 with fail
        clear q0_0 q0_1 q0_2 q0_3 q0_4 l0_ q2_0 q2_1 q2_2 l2_ q4_0 q4_1 q4_2 q4_3 q4_4 l4_
        go_cut [72, 73, 74] from 17 (fun x y z wx => ∃ o, x = .slice (some ⟨bL, o, none⟩) m cM ∧ (0 < m → o = 2) ∧ y = .int .i64 (m : Int) ∧ z = .int .i64 0 ∧ wx = wb)
        case first =>
         have hlo : 2 ≤ nl := by omega
         have hlo2 : (2 : Int) ≤ (nl : Int) := by omega
         by_cases hc2 : cL = 2
         · subst hc2; obtain rfl : cM = 0 := by omega
           go_wp2_with fail; go_meet; exact ⟨_, rfl, fun h => by omega, rfl, rfl, rfl⟩
         · go_wp2_with fail; go_meet; exact ⟨_, rfl, fun h => rfl, rfl, rfl, rfl⟩
        case rest =>
         obtain ⟨o, rfl, ho, rfl, rfl, hwc⟩ := hcut
         rw [hwc]; clear hwc
         replace hH := hH.nilTs
         replace hH : Held w wb [aB (w.heap.size) 29 [.int .i64 0, .int .i64 0, .int .i64 0, .slice none 0 0, .slice none 0 0], aS (.slice (some ⟨bL, 0, none⟩) nl cL) (mkSs ls), aB (wn3.heap.size) 24 [.int .i64 k, .int .i64 p, .int .i64 n], aS (.slice (some ⟨bW, 0, none⟩) nw cW) (mkSs ws), aB (wn5.heap.size) 29 [.int .i64 k, .int .i64 p, .int .i64 n, .slice none 0 0, .slice aO jw cO], aI (.slice aO jw cO) O, aTs (.slice none 0 0) [] []] := hH
         go_wp2_with fail
         go_loopw [74] (fun i wr => ∃ (j : Nat) (tv : Value) (cs : List (Value × Value × Value)) (T : List Ten3), j ≤ m ∧ i = .int .i64 (j : Int) ∧ Hid (T.length = j) ∧ Hid (Rd s.data.toList k p n O T) ∧ Hid (ApartD cs) ∧ Held w wr [aB (w.heap.size) 29 [.int .i64 0, .int .i64 0, .int .i64 0, .slice none 0 0, .slice none 0 0], aS (.slice (some ⟨bL, 0, none⟩) nl cL) (mkSs ls), aB (wn3.heap.size) 24 [.int .i64 k, .int .i64 p, .int .i64 n], aS (.slice (some ⟨bW, 0, none⟩) nw cW) (mkSs ws), aB (wn5.heap.size) 29 [.int .i64 k, .int .i64 p, .int .i64 n, tv, .slice aO jw cO], aI (.slice aO jw cO) O, aTs (tv) cs T]) (fun i wr => m - (RowKit.intOf i).toNat)
         case atStart => exact ⟨0, _, [], [], Nat.zero_le _, rfl, Lib.hid rfl, HRD, Lib.hid ApartD.nil, hH⟩
         case round =>
          clear hH HRD
          obtain ⟨j, tv, cs, T, hj, rfl, HQL, HRD, HAP, hH⟩ := hrel
          obtain ⟨wq, rfl⟩ : ∃ q, q = wr := ⟨wr, rfl⟩
          obtain ⟨aQ, cQ, hvQ, _, _⟩ := (hH.tensS (k := 6) rfl).val
          rw [HQL.out] at hvQ
          subst hvQ
          by_cases hlt : j < m
          ·
           obtain rfl : o = 2 := ho (by omega)
           obtain ⟨l, hl⟩ : ∃ l, ls[2 + j]? = some l := ⟨_, List.getElem?_eq_getElem (by rw [HNL.out]; omega)⟩
           obtain ⟨zl, hzl⟩ : ∃ z, mkS l = z := ⟨_, rfl⟩
           have hsl : zl.size ≤ s.size := by rw [← hzl]; exact line_known HPL.out hl
           have HZL : Hid (zl.data.toList = l) := Lib.hid (by rw [← hzl, mkS_list])
           have HLJ : Hid ((linesL s.data.toList)[T.length + 2]? = some l) := Lib.hid (by rw [HLS.out, HQL.out, Nat.add_comm]; exact hl)
           have HYL := Lib.hid hl; have HYZ := Lib.hid hzl
           clear hl hzl
           obtain ⟨q0_0, q0_1, q0_2, q0_3, q0_4, l0_⟩ := hH.c5 0 rfl; obtain ⟨q2_0, q2_1, q2_2, l2_⟩ := hH.c3 2 rfl; obtain ⟨q4_0, q4_1, q4_2, q4_3, q4_4, l4_⟩ := hH.c5 4 rfl
           have c_ll := hH.lineC (k := 1) rfl HYL.out HYZ.out
           go_wp2_with fail
           clear q0_0 q0_1 q0_2 q0_3 q0_4 l0_ q2_0 q2_1 q2_2 l2_ q4_0 q4_1 q4_2 q4_3 q4_4 l4_ c_ll
           refine (parseTensor_spec k p n zl _ (by omega)).mono ?_; rintro ewn8 wn8 ⟨⟨vt, Lt, Dt, Xt, bt, rfl, htp, oT, hwn8⟩⟩
           rw [HZL.out] at htp
           obtain ⟨tp1, tn1, tc1, tp2, tn2, tc2, tp3, tn3, tc3, rfl⟩ := oT.shape
           replace hH : Held w wn8 [aB (w.heap.size) 29 [.int .i64 0, .int .i64 0, .int .i64 0, .slice none 0 0, .slice none 0 0], aS (.slice (some ⟨bL, 0, none⟩) nl cL) (mkSs ls), aB (wn3.heap.size) 24 [.int .i64 k, .int .i64 p, .int .i64 n], aS (.slice (some ⟨bW, 0, none⟩) nw cW) (mkSs ws), aB (wn5.heap.size) 29 [.int .i64 k, .int .i64 p, .int .i64 n, .slice aQ j cQ, .slice aO jw cO], aI (.slice aO jw cO) O, aTs (.slice aQ j cQ) cs T, aT (.agg #[.slice tp1 tn1 tc1, .slice tp2 tn2 tc2, .slice tp3 tn3 tc3]) Lt Dt Xt] := (hH.mores 1).addT 7 hwn8 oT (Nat.le_refl _)
           clear hwn8
           obtain ⟨q0_0, q0_1, q0_2, q0_3, q0_4, l0_⟩ := hH.c5 0 rfl; obtain ⟨q2_0, q2_1, q2_2, l2_⟩ := hH.c3 2 rfl; obtain ⟨q4_0, q4_1, q4_2, q4_3, q4_4, l4_⟩ := hH.c5 4 rfl
           go_upto_region 21 with fail
           clear q0_0 q0_1 q0_2 q0_3 q0_4 l0_ q2_0 q2_1 q2_2 l2_ q4_0 q4_1 q4_2 q4_3 q4_4 l4_
           have hB : Held w (wn8.alloc (.cells #[.slice tp1 tn1 tc1, .slice tp2 tn2 tc2, .slice tp3 tn3 tc3] 52)) [aB (w.heap.size) 29 [.int .i64 0, .int .i64 0, .int .i64 0, .slice none 0 0, .slice none 0 0], aS (.slice (some ⟨bL, 0, none⟩) nl cL) (mkSs ls), aB (wn3.heap.size) 24 [.int .i64 k, .int .i64 p, .int .i64 n], aS (.slice (some ⟨bW, 0, none⟩) nw cW) (mkSs ws), aB (wn5.heap.size) 29 [.int .i64 k, .int .i64 p, .int .i64 n, .slice aQ j cQ, .slice aO jw cO], aI (.slice aO jw cO) O, aTs (.slice aQ j cQ) cs T, aT (.agg #[.slice tp1 tn1 tc1, .slice tp2 tn2 tc2, .slice tp3 tn3 tc3]) Lt Dt Xt, aB (wn8.heap.size) 52 [.slice tp1 tn1 tc1, .slice tp2 tn2 tc2, .slice tp3 tn3 tc3]] := by
            have h := (hH.mores 1).addB 8 #[.slice tp1 tn1 tc1, .slice tp2 tn2 tc2, .slice tp3 tn3 tc3] 52
            exact h
           have hsz : (wn8.alloc (.cells #[.slice tp1 tn1 tc1, .slice tp2 tn2 tc2, .slice tp3 tn3 tc3] 52)).heap.size = wn8.heap.size + 1 := by simp
           generalize wn8.alloc (.cells #[.slice tp1 tn1 tc1, .slice tp2 tn2 tc2, .slice tp3 tn3 tc3] 52) = wn9 at hB hsz ⊢
           replace hH := hB; have HSZwn9 := Lib.hid hsz; clear hB hsz
           cases bt
           ·
            have HNO := Lib.hid (HRD.out.bad HLJ.out htp); clear htp
            obtain ⟨q0_0, q0_1, q0_2, q0_3, q0_4, l0_⟩ := hH.c5 0 rfl; have f0_0 := hH.fr 0 0 rfl; have f0_1 := hH.fr 0 1 rfl; have f0_2 := hH.fr 0 2 rfl; have f0_3 := hH.fr 0 3 rfl; have f0_4 := hH.fr 0 4 rfl; obtain ⟨q2_0, q2_1, q2_2, l2_⟩ := hH.c3 2 rfl; obtain ⟨q4_0, q4_1, q4_2, q4_3, q4_4, l4_⟩ := hH.c5 4 rfl; obtain ⟨q8_0, q8_1, q8_2, l8_⟩ := hH.c3 8 rfl
            have HH := Lib.hid hH
            go_upto_region 22 with fail
            repeat go_step
            refine bodyPost_ret (v := .tuple #[.agg #[.int .i64 0, .int .i64 0, .int .i64 0, .slice none 0 0, .slice none 0 0], .bool false]) (by simp [results, Tryz.results11, go_sem, *]) rfl ?_
            exact PNR.fail HNO.out (HH.out.setB5 (k := 0) rfl (.int .i64 0) (.int .i64 0) (.int .i64 0) (.slice none 0 0) (.slice none 0 0))
           ·
            have HRN := Lib.hid (HRD.out.step HLJ.out htp); clear htp
            have HAP2 := Lib.hid (HAP.out.push hH (k1 := 6) (k2 := 7) rfl rfl (by decide))
            have HTL : Hid ((T ++ [(Lt, Dt, Xt)]).length = j + 1) := Lib.hid (by rw [List.length_append, List.length_singleton, HQL.out])
            obtain ⟨q0_0, q0_1, q0_2, q0_3, q0_4, l0_⟩ := hH.c5 0 rfl; obtain ⟨q2_0, q2_1, q2_2, l2_⟩ := hH.c3 2 rfl; obtain ⟨q4_0, q4_1, q4_2, q4_3, q4_4, l4_⟩ := hH.c5 4 rfl; obtain ⟨q8_0, q8_1, q8_2, l8_⟩ := hH.c3 8 rfl
            go_upto_region 23 with fail
            clear q0_0 q0_1 q0_2 q0_3 q0_4 l0_ q2_0 q2_1 q2_2 l2_ q4_0 q4_1 q4_2 q4_3 q4_4 l4_ q8_0 q8_1 q8_2 l8_; obtain ⟨q0_0, q0_1, q0_2, q0_3, q0_4, l0_⟩ := hH.c5 0 rfl; obtain ⟨q2_0, q2_1, q2_2, l2_⟩ := hH.c3 2 rfl; obtain ⟨q4_0, q4_1, q4_2, q4_3, q4_4, l4_⟩ := hH.c5 4 rfl; have f4_0 := hH.fr 4 0 rfl; have f4_1 := hH.fr 4 1 rfl; have f4_2 := hH.fr 4 2 rfl; have f4_3 := hH.fr 4 3 rfl; have f4_4 := hH.fr 4 4 rfl; obtain ⟨q8_0, q8_1, q8_2, l8_⟩ := hH.c3 8 rfl
            go_wp2_with (at_builtin; refine wpList_app _ rfl _ _ 26 rfl _ _ rfl rfl _ (run_pushT2 _ (hH.grow ((Ext.refl _).alloc _)) (k1 := 6) (k2 := 7) rfl rfl (by decide) (row_one3 _ _ _ _ _) (by rw [HQL.out]; omega)) ?_; rintro vp wp ⟨hHp, gp⟩; obtain ⟨ap, cp, hvp, _, _⟩ := (hHp.tensS (k := 6) rfl).val; rw [List.length_append, List.length_singleton, HQL.out] at hvp; subst hvp; have yB := hHp.blk (k := 4) rfl; have yl := yB.lt; have y3 := yB.cell (j := 3) rfl; have y3f := yB.free 3; clear yB)
            have hHq := hHp.setB (k := 4) rfl 3 (.slice ap (j + 1) cp)
            go_roundw
            case rel => exact ⟨j + 1, _, _, _, by omega, by go_num, HTL, HRN, HAP2, hHq.sub (.cons_cons _ (.cons_cons _ (.cons_cons _ (.cons_cons _ (.cons_cons _ (.cons_cons _ (.cons_cons _ (.cons _ (.cons _ .slnil)))))))))⟩
            case measure => simp [RowKit.intOf]; omega
          ·
           have hje : j = m := by omega
           subst hje
           clear hlt hj ho
           have HLN : Hid ((linesL s.data.toList).length = T.length + 2) := Lib.hid (by rw [HLS.out, HNL.out, HQL.out]; omega)
           have HT12 : Hid (T.length ≤ 12) := Lib.hid (by rw [HQL.out]; omega)
           have HTE := Lib.hid HRD.out.tens
           obtain ⟨wo, rfl⟩ : ∃ q, q = wq := ⟨wq, rfl⟩
           obtain ⟨y, hy⟩ : ∃ y, mkS (fnAll k p n O T) = y := ⟨_, rfl⟩
           have HYY : Hid (y.data.toList = fnAll k p n O T) := Lib.hid (by rw [← hy, mkS_list])
           have HYE := Lib.hid hy; clear hy
           have HSN : Hid (s.data.toList ≠ []) := Lib.hid fun e => by have := HLN.out; rw [e, lines_nil] at this; simp at this
           obtain ⟨q0_0, q0_1, q0_2, q0_3, q0_4, l0_⟩ := hH.c5 0 rfl; obtain ⟨q2_0, q2_1, q2_2, l2_⟩ := hH.c3 2 rfl; obtain ⟨q4_0, q4_1, q4_2, q4_3, q4_4, l4_⟩ := hH.c5 4 rfl
           go_wp2_with fail
           clear q0_0 q0_1 q0_2 q0_3 q0_4 l0_ q2_0 q2_1 q2_2 l2_ q4_0 q4_1 q4_2 q4_3 q4_4 l4_
           refine (formatNetwork_spec HR.out HTE.out HT12.out hol _ _ _ (hH.tensS (k := 6) rfl) (hH.ints (k := 5) rfl)).mono ?_; rintro ewn10 wn10 ⟨rfl, hwn10⟩
           rw [HYE.out]
           replace hH : Held w wn10 [aB (w.heap.size) 29 [.int .i64 0, .int .i64 0, .int .i64 0, .slice none 0 0, .slice none 0 0], aS (.slice (some ⟨bL, 0, none⟩) nl cL) (mkSs ls), aB (wn3.heap.size) 24 [.int .i64 k, .int .i64 p, .int .i64 n], aS (.slice (some ⟨bW, 0, none⟩) nw cW) (mkSs ws), aB (wn5.heap.size) 29 [.int .i64 k, .int .i64 p, .int .i64 n, .slice aQ j cQ, .slice aO jw cO], aI (.slice aO jw cO) O, aTs (.slice aQ j cQ) cs T] := hH.grow hwn10
           clear hwn10
           by_cases hf : fnAll k p n O T = s.data.toList
           ·
            have hq2 := bytes_beq y s (by rw [HYY.out, hf])
            have hqn2 : (y.toList != s.toList) = false := by rw [bne, hq2]; rfl
            have HNB : Hid (netB T O = true) := Lib.hid (by
             cases h : netB T O
             · unfold fnAll at hf; rw [h] at hf; exact absurd hf.symm HSN.out
             · rfl)
            have HNP := Lib.hid (HRD.out.yes HT12.out HNB.out (by rw [← hf, fnAll, HNB.out]; rfl))
            clear hf
            obtain ⟨q0_0, q0_1, q0_2, q0_3, q0_4, l0_⟩ := hH.c5 0 rfl; have f0_0 := hH.fr 0 0 rfl; have f0_1 := hH.fr 0 1 rfl; have f0_2 := hH.fr 0 2 rfl; have f0_3 := hH.fr 0 3 rfl; have f0_4 := hH.fr 0 4 rfl; obtain ⟨q2_0, q2_1, q2_2, l2_⟩ := hH.c3 2 rfl; obtain ⟨q4_0, q4_1, q4_2, q4_3, q4_4, l4_⟩ := hH.c5 4 rfl
            have HH := Lib.hid hH
            go_upto_region 27 with fail
            repeat go_step
            refine bodyPost_ret (v := .tuple #[.agg #[.int .i64 k, .int .i64 p, .int .i64 n, .slice aQ j cQ, .slice aO jw cO], .bool true]) (by simp [results, Tryz.results11, go_sem, *]) rfl ?_
            exact ⟨⟨k, p, n, _, _, cs, O, T, true, rfl, HNP.out, (HH.out.setB5 (k := 0) rfl (.int .i64 k) (.int .i64 p) (.int .i64 n) (.slice aQ j cQ) (.slice aO jw cO)).sub (.cons _ (.cons _ (.cons _ (.cons _ (.cons _ (.cons_cons _ (.cons_cons _ .slnil))))))), HAP.out⟩⟩
           ·
            have hq2 := str_beq_no (z := y) (s := s) (by rw [HYY.out]; exact hf)
            have hqn2 : (y.toList != s.toList) = true := by rw [bne, hq2]; rfl
            have HNO := Lib.hid (HRD.out.no HLN.out (fun h e => hf (by rw [fnAll, h, if_pos rfl]; exact e)))
            clear hf
            obtain ⟨q0_0, q0_1, q0_2, q0_3, q0_4, l0_⟩ := hH.c5 0 rfl; have f0_0 := hH.fr 0 0 rfl; have f0_1 := hH.fr 0 1 rfl; have f0_2 := hH.fr 0 2 rfl; have f0_3 := hH.fr 0 3 rfl; have f0_4 := hH.fr 0 4 rfl; obtain ⟨q2_0, q2_1, q2_2, l2_⟩ := hH.c3 2 rfl; obtain ⟨q4_0, q4_1, q4_2, q4_3, q4_4, l4_⟩ := hH.c5 4 rfl
            have HH := Lib.hid hH
            go_upto_region 26 with fail
            repeat go_step
            refine bodyPost_ret (v := .tuple #[.agg #[.int .i64 0, .int .i64 0, .int .i64 0, .slice none 0 0, .slice none 0 0], .bool false]) (by simp [results, Tryz.results11, go_sem, *]) rfl ?_
            exact PNR.fail HNO.out (HH.out.setB5 (k := 0) rfl (.int .i64 0) (.int .i64 0) (.int .i64 0) (.slice none 0 0) (.slice none 0 0))
end Go.Proofs.YtlgjddgajdjllaaGreatDoor
