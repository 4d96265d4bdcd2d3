/- The law 'FnLinear', walked. -/
import Derived.Deep.RegionHeld3
import Derived.Test.YtabeciopggofkaaUBase
import Derived.Test.YtabeciopggofkaaULinW
import Derived.Test.YtabeciopggofkaaUMakeL
import Derived.Test.YtabeciopggofkaaUZeroT
import Derived.Test.YtabeciopggofkaaUDrawE
import Derived.Test.YtabeciopggofkaaUPairsP
namespace Go.Proofs.Ytabeciopggofkaa
open Go.RowKit
set_option linter.unusedSimpArgs false
set_option linter.unusedVariables false

theorem TenS.labsP {w : World} {a b c : Value} {L D X : List Int} (h : TenS w (.agg #[a, b, c]) L D X) : IntS w a L := by
  obtain ⟨_, _, _, hv, h1, _, _⟩ := h.val
  simp at hv
  obtain ⟨rfl, rfl, rfl⟩ := hv
  exact h1
theorem TenS.dimsP {w : World} {a b c : Value} {L D X : List Int} (h : TenS w (.agg #[a, b, c]) L D X) : IntS w b D := by
  obtain ⟨_, _, _, hv, _, h2, _⟩ := h.val
  simp at hv
  obtain ⟨rfl, rfl, rfl⟩ := hv
  exact h2
theorem addXs_len {k p n : Int} (hr : ringOk k p n = true) {dm : Int → Int} {U L : List Int} {xs : List (El k p n)} (h : IsT k p n dm U L xs) : addXs hr (List.replicate (size (axs dm L)) (rig hr).zero) (permXs hr dm L L xs) = xs := by
  have e : permXs hr dm L L xs = xs := by unfold permXs; exact tab_valT hr h.sub.nodup h.len σ0
  rw [e, ← h.len]
  exact zero_addXs hr xs

set_option maxRecDepth 100000 in
set_option maxHeartbeats 8000000 in
theorem walkFnLinear (v : Value) (l : List Int) (w : World) (hl : ByteS w v l) (hall : ∀ x ∈ l, 0 ≤ x ∧ x ≤ 255) :
    Calls Try.prog 7 #[v] w fun e w' => e = .returned (.bool true) ∧ Ext w w' := by
  obtain ⟨ca, cap, rfl, hc1, hc2⟩ := hl.val
  by_cases big : 1048576 < l.length
  · go_enter Try.func7, Try.ntmps7
    go_wp2
    go_ret
    exact ⟨rfl, (by repeat' (first | (with_reducible exact Ext.refl _) | (with_reducible assumption) | (with_reducible apply Ext.alloc) | (with_reducible apply Ext.drew) | (with_reducible apply Ext.drewN) | (refine Ext.setAt ?_ (by omega) _ _) | (refine Ext.trans ?_ (by assumption))))⟩
  have hC : Code w (.slice ca l.length cap) l := ⟨hl, hall, by omega⟩
  clear hall hl
  go_enter Try.func7, Try.ntmps7
  go_wp2_with fail
  refine (makeRing_any _ l 0 _ hC (by omega)).mono ?_; rintro e1 w1 ⟨k, p, n, rfl, hd, h1⟩
  have HR := Lib.hid (drawn_ok hd); clear hd
  go_wp2_with fail
  generalize hG2 : w1.alloc (.cells #[.int .i64 k, .int .i64 p, .int .i64 n] 24) = w2
  have h2 : Ext w1 w2 := by rw [← hG2]; exact (Ext.refl _).alloc _
  have Br2 : Blk w2 w1.heap.size 24 [.int .i64 k, .int .i64 p, .int .i64 n] := by rw [← hG2]; exact Blk.new w1 #[.int .i64 k, .int .i64 p, .int .i64 n] 24
  clear hG2
  have Br2 := Br2
  have ir0_2 := Br2.cell (j := 0) rfl
  have ir1_2 := Br2.cell (j := 1) rfl
  have ir2_2 := Br2.cell (j := 2) rfl
  have lr_2 := Br2.lt
  refine (makeTensor_any _ l 10 k p n HR.out _ (hC.ext (h1.trans h2)) (by omega)).mono ?_; rintro e3 w3 ⟨vTt, L, Dt, Xt, rfl, ot, dT, h3⟩
  obtain ⟨xs, rfl, rfl, hT⟩ := drawn_isT HR.out dT
  have Tt := Lib.hid hT
  clear dT hT
  obtain ⟨tp1, tn1, tc1, tp2, tn2, tc2, tp3, tn3, tc3, rfl⟩ := ot.shape
  clear ir0_2 ir1_2 ir2_2 lr_2
  have Br3 := (Br2.ext h3)
  clear Br2
  have ir0_3 := Br3.cell (j := 0) rfl
  have ir1_3 := Br3.cell (j := 1) rfl
  have ir2_3 := Br3.cell (j := 2) rfl
  have lr_3 := Br3.lt
  go_wp2_with fail
  generalize hG4 : w3.alloc (.cells #[.slice tp1 tn1 tc1, .slice tp2 tn2 tc2, .slice tp3 tn3 tc3] 31) = w4
  have h4 : Ext w3 w4 := by rw [← hG4]; exact (Ext.refl _).alloc _
  have Bt4 : Blk w4 w3.heap.size 31 [.slice tp1 tn1 tc1, .slice tp2 tn2 tc2, .slice tp3 tn3 tc3] := by rw [← hG4]; exact Blk.new w3 #[.slice tp1 tn1 tc1, .slice tp2 tn2 tc2, .slice tp3 tn3 tc3] 31
  clear hG4
  clear ir0_3 ir1_3 ir2_3 lr_3
  have Br4 := (Br3.ext h4)
  clear Br3
  have ir0_4 := Br4.cell (j := 0) rfl
  have ir1_4 := Br4.cell (j := 1) rfl
  have ir2_4 := Br4.cell (j := 2) rfl
  have lr_4 := Br4.lt
  have Bt4 := Bt4
  have it0_4 := Bt4.cell (j := 0) rfl
  have it1_4 := Bt4.cell (j := 1) rfl
  have it2_4 := Bt4.cell (j := 2) rfl
  have lt_4 := Bt4.lt
  refine (makeLike_any HR.out Tt.out.uni Tt.out.sub _ _ l 60 _ (hC.ext (h1.trans (h2.trans (h3.trans h4)))) (by omega) (ot.ext h4)).mono ?_; rintro e5 w5 ⟨vTu, M, ys, rfl, ou, hp, hT, h5⟩
  have HP := Lib.hid hp.symm
  have Tu := Lib.hid hT
  clear hp hT
  obtain ⟨up1, un1, uc1, up2, un2, uc2, up3, un3, uc3, rfl⟩ := ou.shape
  clear ir0_4 ir1_4 ir2_4 lr_4 it0_4 it1_4 it2_4 lt_4
  have Br5 := (Br4.ext h5)
  clear Br4
  have ir0_5 := Br5.cell (j := 0) rfl
  have ir1_5 := Br5.cell (j := 1) rfl
  have ir2_5 := Br5.cell (j := 2) rfl
  have lr_5 := Br5.lt
  have Bt5 := (Bt4.ext h5)
  clear Bt4
  have it0_5 := Bt5.cell (j := 0) rfl
  have it1_5 := Bt5.cell (j := 1) rfl
  have it2_5 := Bt5.cell (j := 2) rfl
  have lt_5 := Bt5.lt
  go_wp2_with fail
  generalize hG6 : w5.alloc (.cells #[.slice up1 un1 uc1, .slice up2 un2 uc2, .slice up3 un3 uc3] 31) = w6
  have h6 : Ext w5 w6 := by rw [← hG6]; exact (Ext.refl _).alloc _
  have Bu6 : Blk w6 w5.heap.size 31 [.slice up1 un1 uc1, .slice up2 un2 uc2, .slice up3 un3 uc3] := by rw [← hG6]; exact Blk.new w5 #[.slice up1 un1 uc1, .slice up2 un2 uc2, .slice up3 un3 uc3] 31
  clear hG6
  clear ir0_5 ir1_5 ir2_5 lr_5 it0_5 it1_5 it2_5 lt_5
  have Br6 := (Br5.ext h6)
  clear Br5
  have ir0_6 := Br6.cell (j := 0) rfl
  have ir1_6 := Br6.cell (j := 1) rfl
  have ir2_6 := Br6.cell (j := 2) rfl
  have lr_6 := Br6.lt
  have Bt6 := (Bt5.ext h6)
  clear Bt5
  have it0_6 := Bt6.cell (j := 0) rfl
  have it1_6 := Bt6.cell (j := 1) rfl
  have it2_6 := Bt6.cell (j := 2) rfl
  have lt_6 := Bt6.lt
  have Bu6 := Bu6
  have iu0_6 := Bu6.cell (j := 0) rfl
  have iu1_6 := Bu6.cell (j := 1) rfl
  have iu2_6 := Bu6.cell (j := 2) rfl
  have lu_6 := Bu6.lt
  refine (makeElem_any _ l 110 k p n HR.out _ (hC.ext (h1.trans (h2.trans (h3.trans (h4.trans (h5.trans h6)))))) (by omega)).mono ?_; rintro e7 w7 ⟨vx, x0, rfl, ox, hxk, h7⟩
  obtain ⟨xe, rfl⟩ : ∃ xe : El k p n, xe.1 = x0 := ⟨⟨x0, hxk⟩, rfl⟩
  clear hxk
  obtain ⟨ax, cx, rfl, _, _⟩ := ox.ints.val
  clear ir0_6 ir1_6 ir2_6 lr_6 it0_6 it1_6 it2_6 lt_6 iu0_6 iu1_6 iu2_6 lu_6
  have Br7 := (Br6.ext h7)
  clear Br6
  have ir0_7 := Br7.cell (j := 0) rfl
  have ir1_7 := Br7.cell (j := 1) rfl
  have ir2_7 := Br7.cell (j := 2) rfl
  have lr_7 := Br7.lt
  have Bt7 := (Bt6.ext h7)
  clear Bt6
  have it0_7 := Bt7.cell (j := 0) rfl
  have it1_7 := Bt7.cell (j := 1) rfl
  have it2_7 := Bt7.cell (j := 2) rfl
  have lt_7 := Bt7.lt
  have Bu7 := (Bu6.ext h7)
  clear Bu6
  have iu0_7 := Bu7.cell (j := 0) rfl
  have iu1_7 := Bu7.cell (j := 1) rfl
  have iu2_7 := Bu7.cell (j := 2) rfl
  have lu_7 := Bu7.lt
  go_wp2_with fail
  refine (addTensors_any HR.out Tt.out Tu.out HP.out _ _ _ (ot.tens.ext (h4.trans (h5.trans (h6.trans h7)))) (ou.tens.ext (h6.trans h7))).mono ?_; rintro e8 w8 ⟨va, rfl, oa, h8⟩
  obtain ⟨ap1, an1, ac1, ap2, an2, ac2, ap3, an3, ac3, rfl⟩ := oa.shape
  clear ir0_7 ir1_7 ir2_7 lr_7 it0_7 it1_7 it2_7 lt_7 iu0_7 iu1_7 iu2_7 lu_7
  have Br8 := (Br7.ext h8)
  clear Br7
  have ir0_8 := Br8.cell (j := 0) rfl
  have ir1_8 := Br8.cell (j := 1) rfl
  have ir2_8 := Br8.cell (j := 2) rfl
  have lr_8 := Br8.lt
  have Bt8 := (Bt7.ext h8)
  clear Bt7
  have it0_8 := Bt8.cell (j := 0) rfl
  have it1_8 := Bt8.cell (j := 1) rfl
  have it2_8 := Bt8.cell (j := 2) rfl
  have lt_8 := Bt8.lt
  have Bu8 := (Bu7.ext h8)
  clear Bu7
  have iu0_8 := Bu8.cell (j := 0) rfl
  have iu1_8 := Bu8.cell (j := 1) rfl
  have iu2_8 := Bu8.cell (j := 2) rfl
  have lu_8 := Bu8.lt
  go_wp2_with fail
  generalize hG9 : w8.alloc (.cells #[.slice ap1 an1 ac1, .slice ap2 an2 ac2, .slice ap3 an3 ac3] 31) = w9
  have h9 : Ext w8 w9 := by rw [← hG9]; exact (Ext.refl _).alloc _
  have Ba9 : Blk w9 w8.heap.size 31 [.slice ap1 an1 ac1, .slice ap2 an2 ac2, .slice ap3 an3 ac3] := by rw [← hG9]; exact Blk.new w8 #[.slice ap1 an1 ac1, .slice ap2 an2 ac2, .slice ap3 an3 ac3] 31
  clear hG9
  clear ir0_8 ir1_8 ir2_8 lr_8 it0_8 it1_8 it2_8 lt_8 iu0_8 iu1_8 iu2_8 lu_8
  have Br9 := (Br8.ext h9)
  clear Br8
  have ir0_9 := Br9.cell (j := 0) rfl
  have ir1_9 := Br9.cell (j := 1) rfl
  have ir2_9 := Br9.cell (j := 2) rfl
  have lr_9 := Br9.lt
  have Bt9 := (Bt8.ext h9)
  clear Bt8
  have it0_9 := Bt9.cell (j := 0) rfl
  have it1_9 := Bt9.cell (j := 1) rfl
  have it2_9 := Bt9.cell (j := 2) rfl
  have lt_9 := Bt9.lt
  have Bu9 := (Bu8.ext h9)
  clear Bu8
  have iu0_9 := Bu9.cell (j := 0) rfl
  have iu1_9 := Bu9.cell (j := 1) rfl
  have iu2_9 := Bu9.cell (j := 2) rfl
  have lu_9 := Bu9.lt
  have Ba9 := Ba9
  have ia0_9 := Ba9.cell (j := 0) rfl
  have ia1_9 := Ba9.cell (j := 1) rfl
  have ia2_9 := Ba9.cell (j := 2) rfl
  have la_9 := Ba9.lt
  refine (addTensors_any HR.out Tu.out Tt.out HP.out.symm _ _ _ (ou.tens.ext (h6.trans (h7.trans (h8.trans h9)))) (ot.tens.ext (h4.trans (h5.trans (h6.trans (h7.trans (h8.trans h9))))))).mono ?_; rintro e10 w10 ⟨vb, rfl, ob, h10⟩
  obtain ⟨bp1, bn1, bc1, bp2, bn2, bc2, bp3, bn3, bc3, rfl⟩ := ob.shape
  clear ir0_9 ir1_9 ir2_9 lr_9 it0_9 it1_9 it2_9 lt_9 iu0_9 iu1_9 iu2_9 lu_9 ia0_9 ia1_9 ia2_9 la_9
  have Br10 := (Br9.ext h10)
  clear Br9
  have ir0_10 := Br10.cell (j := 0) rfl
  have ir1_10 := Br10.cell (j := 1) rfl
  have ir2_10 := Br10.cell (j := 2) rfl
  have lr_10 := Br10.lt
  have Bt10 := (Bt9.ext h10)
  clear Bt9
  have it0_10 := Bt10.cell (j := 0) rfl
  have it1_10 := Bt10.cell (j := 1) rfl
  have it2_10 := Bt10.cell (j := 2) rfl
  have lt_10 := Bt10.lt
  have Bu10 := (Bu9.ext h10)
  clear Bu9
  have iu0_10 := Bu10.cell (j := 0) rfl
  have iu1_10 := Bu10.cell (j := 1) rfl
  have iu2_10 := Bu10.cell (j := 2) rfl
  have lu_10 := Bu10.lt
  have Ba10 := (Ba9.ext h10)
  clear Ba9
  have ia0_10 := Ba10.cell (j := 0) rfl
  have ia1_10 := Ba10.cell (j := 1) rfl
  have ia2_10 := Ba10.cell (j := 2) rfl
  have la_10 := Ba10.lt
  go_wp2_with fail
  generalize hG11 : w10.alloc (.cells #[.slice bp1 bn1 bc1, .slice bp2 bn2 bc2, .slice bp3 bn3 bc3] 31) = w11
  have h11 : Ext w10 w11 := by rw [← hG11]; exact (Ext.refl _).alloc _
  have Bb11 : Blk w11 w10.heap.size 31 [.slice bp1 bn1 bc1, .slice bp2 bn2 bc2, .slice bp3 bn3 bc3] := by rw [← hG11]; exact Blk.new w10 #[.slice bp1 bn1 bc1, .slice bp2 bn2 bc2, .slice bp3 bn3 bc3] 31
  clear hG11
  clear ir0_10 ir1_10 ir2_10 lr_10 it0_10 it1_10 it2_10 lt_10 iu0_10 iu1_10 iu2_10 lu_10 ia0_10 ia1_10 ia2_10 la_10
  have Br11 := (Br10.ext h11)
  clear Br10
  have ir0_11 := Br11.cell (j := 0) rfl
  have ir1_11 := Br11.cell (j := 1) rfl
  have ir2_11 := Br11.cell (j := 2) rfl
  have lr_11 := Br11.lt
  have Bt11 := (Bt10.ext h11)
  clear Bt10
  have it0_11 := Bt11.cell (j := 0) rfl
  have it1_11 := Bt11.cell (j := 1) rfl
  have it2_11 := Bt11.cell (j := 2) rfl
  have lt_11 := Bt11.lt
  have Bu11 := (Bu10.ext h11)
  clear Bu10
  have iu0_11 := Bu11.cell (j := 0) rfl
  have iu1_11 := Bu11.cell (j := 1) rfl
  have iu2_11 := Bu11.cell (j := 2) rfl
  have lu_11 := Bu11.lt
  have Ba11 := (Ba10.ext h11)
  clear Ba10
  have ia0_11 := Ba11.cell (j := 0) rfl
  have ia1_11 := Ba11.cell (j := 1) rfl
  have ia2_11 := Ba11.cell (j := 2) rfl
  have la_11 := Ba11.lt
  have Bb11 := Bb11
  have ib0_11 := Bb11.cell (j := 0) rfl
  have ib1_11 := Bb11.cell (j := 1) rfl
  have ib2_11 := Bb11.cell (j := 2) rfl
  have lb_11 := Bb11.lt
  have TA := Lib.hid (addXs_isT HR.out Tt.out Tu.out)
  have TB := Lib.hid (addXs_isT HR.out Tu.out Tt.out)
  have TSt := Lib.hid (scaleXs_isT HR.out xe Tt.out)
  have TSu := Lib.hid (scaleXs_isT HR.out xe Tu.out)
  have D0 : Ext w11 w11.drew := (Ext.refl _).drew
  have hn0_0 : w1.heap.size ≠ w11.heap.size := by omega
  have hn0_1 : w3.heap.size ≠ w11.heap.size := by omega
  have hn0_2 : w5.heap.size ≠ w11.heap.size := by omega
  go_upto_region 9 with fail
  go_cut [11, 12] from 21 (fun q ok wx => ∃ bu cp1 cn1 cc1 cp2 cn2 cc2 cp3 cn3 cc3, q = .pointer (some ⟨bu, 0, none⟩) ∧ ok = .bool true ∧ Blk wx bu 31 [.slice cp1 cn1 cc1, .slice cp2 cn2 cc2, .slice cp3 cn3 cc3] ∧ Ext w11 wx ∧ OwnT wx w11.heap.size (.agg #[.slice cp1 cn1 cc1, .slice cp2 cn2 cc2, .slice cp3 cn3 cc3]) L (L.map dimOf) (flat (addXs HR.out (scaleXs HR.out xe xs) (permXs HR.out dimOf M L (scaleXs HR.out xe ys)))))
  case first =>
    refine wp_region_held_drew (S := fun w' => w'.cell? ⟨w1.heap.size, 0, none⟩ = some (.int .i64 k) ∧ w'.cell? ⟨w1.heap.size, 1, none⟩ = some (.int .i64 p) ∧ w'.cell? ⟨w1.heap.size, 2, none⟩ = some (.int .i64 n) ∧ w'.cell? ⟨w3.heap.size, 0, none⟩ = some (.slice tp1 tn1 tc1) ∧ w'.cell? ⟨w3.heap.size, 1, none⟩ = some (.slice tp2 tn2 tc2) ∧ w'.cell? ⟨w3.heap.size, 2, none⟩ = some (.slice tp3 tn3 tc3) ∧ w'.cell? ⟨w5.heap.size, 0, none⟩ = some (.slice up1 un1 uc1) ∧ w'.cell? ⟨w5.heap.size, 1, none⟩ = some (.slice up2 un2 uc2) ∧ w'.cell? ⟨w5.heap.size, 2, none⟩ = some (.slice up3 un3 uc3)) (by kernel_rfl) ?_ (fun hHeld => ?_)
    · (first | (with_reducible exact ⟨D0.cell ir0_11, D0.cell ir1_11, D0.cell ir2_11, D0.cell it0_11, D0.cell it1_11, D0.cell it2_11, D0.cell iu0_11, D0.cell iu1_11, D0.cell iu2_11⟩) | (with_reducible exact ⟨(((Ext.refl w11).alloc _).drew).cell ir0_11, (((Ext.refl w11).alloc _).drew).cell ir1_11, (((Ext.refl w11).alloc _).drew).cell ir2_11, (((Ext.refl w11).alloc _).drew).cell it0_11, (((Ext.refl w11).alloc _).drew).cell it1_11, (((Ext.refl w11).alloc _).drew).cell it2_11, (((Ext.refl w11).alloc _).drew).cell iu0_11, (((Ext.refl w11).alloc _).drew).cell iu1_11, (((Ext.refl w11).alloc _).drew).cell iu2_11⟩) | (with_reducible exact ⟨xc1_0, xc1_1, xc1_2, xc1_3, xc1_4, xc1_5, xc1_6, xc1_7, xc1_8⟩) | (with_reducible exact ⟨(Ec1.alloc _).cell ir0_11, (Ec1.alloc _).cell ir1_11, (Ec1.alloc _).cell ir2_11, (Ec1.alloc _).cell it0_11, (Ec1.alloc _).cell it1_11, (Ec1.alloc _).cell it2_11, (Ec1.alloc _).cell iu0_11, (Ec1.alloc _).cell iu1_11, (Ec1.alloc _).cell iu2_11⟩) | (with_reducible exact ⟨xc2_0, xc2_1, xc2_2, xc2_3, xc2_4, xc2_5, xc2_6, xc2_7, xc2_8⟩) | (with_reducible exact ⟨(Ec2.alloc _).cell ir0_11, (Ec2.alloc _).cell ir1_11, (Ec2.alloc _).cell ir2_11, (Ec2.alloc _).cell it0_11, (Ec2.alloc _).cell it1_11, (Ec2.alloc _).cell it2_11, (Ec2.alloc _).cell iu0_11, (Ec2.alloc _).cell iu1_11, (Ec2.alloc _).cell iu2_11⟩) | (with_reducible exact ⟨xc3_0, xc3_1, xc3_2, xc3_3, xc3_4, xc3_5, xc3_6, xc3_7, xc3_8⟩) | (with_reducible exact ⟨(Ec3.alloc _).cell ir0_11, (Ec3.alloc _).cell ir1_11, (Ec3.alloc _).cell ir2_11, (Ec3.alloc _).cell it0_11, (Ec3.alloc _).cell it1_11, (Ec3.alloc _).cell it2_11, (Ec3.alloc _).cell iu0_11, (Ec3.alloc _).cell iu1_11, (Ec3.alloc _).cell iu2_11⟩) | (with_reducible exact ⟨grown_cell (b := w11.heap.size) (grown_setCell (grown_setCell (grown_setCell (grown_refl _ _) _ _) _ _) _ _) hn0_0 xc3_0, grown_cell (b := w11.heap.size) (grown_setCell (grown_setCell (grown_setCell (grown_refl _ _) _ _) _ _) _ _) hn0_0 xc3_1, grown_cell (b := w11.heap.size) (grown_setCell (grown_setCell (grown_setCell (grown_refl _ _) _ _) _ _) _ _) hn0_0 xc3_2, grown_cell (b := w11.heap.size) (grown_setCell (grown_setCell (grown_setCell (grown_refl _ _) _ _) _ _) _ _) hn0_1 xc3_3, grown_cell (b := w11.heap.size) (grown_setCell (grown_setCell (grown_setCell (grown_refl _ _) _ _) _ _) _ _) hn0_1 xc3_4, grown_cell (b := w11.heap.size) (grown_setCell (grown_setCell (grown_setCell (grown_refl _ _) _ _) _ _) _ _) hn0_1 xc3_5, grown_cell (b := w11.heap.size) (grown_setCell (grown_setCell (grown_setCell (grown_refl _ _) _ _) _ _) _ _) hn0_2 xc3_6, grown_cell (b := w11.heap.size) (grown_setCell (grown_setCell (grown_setCell (grown_refl _ _) _ _) _ _) _ _) hn0_2 xc3_7, grown_cell (b := w11.heap.size) (grown_setCell (grown_setCell (grown_setCell (grown_refl _ _) _ _) _ _) _ _) hn0_2 xc3_8⟩) | (with_reducible exact ⟨grown_cell (b := wc1.heap.size) (grown_setCell (grown_setCell (grown_setCell (grown_refl _ _) _ _) _ _) _ _) hn1_0 xc3_0, grown_cell (b := wc1.heap.size) (grown_setCell (grown_setCell (grown_setCell (grown_refl _ _) _ _) _ _) _ _) hn1_0 xc3_1, grown_cell (b := wc1.heap.size) (grown_setCell (grown_setCell (grown_setCell (grown_refl _ _) _ _) _ _) _ _) hn1_0 xc3_2, grown_cell (b := wc1.heap.size) (grown_setCell (grown_setCell (grown_setCell (grown_refl _ _) _ _) _ _) _ _) hn1_1 xc3_3, grown_cell (b := wc1.heap.size) (grown_setCell (grown_setCell (grown_setCell (grown_refl _ _) _ _) _ _) _ _) hn1_1 xc3_4, grown_cell (b := wc1.heap.size) (grown_setCell (grown_setCell (grown_setCell (grown_refl _ _) _ _) _ _) _ _) hn1_1 xc3_5, grown_cell (b := wc1.heap.size) (grown_setCell (grown_setCell (grown_setCell (grown_refl _ _) _ _) _ _) _ _) hn1_2 xc3_6, grown_cell (b := wc1.heap.size) (grown_setCell (grown_setCell (grown_setCell (grown_refl _ _) _ _) _ _) _ _) hn1_2 xc3_7, grown_cell (b := wc1.heap.size) (grown_setCell (grown_setCell (grown_setCell (grown_refl _ _) _ _) _ _) _ _) hn1_2 xc3_8⟩) | (with_reducible exact ⟨grown_cell (b := wc2.heap.size) (grown_setCell (grown_setCell (grown_setCell (grown_refl _ _) _ _) _ _) _ _) hn2_0 xc3_0, grown_cell (b := wc2.heap.size) (grown_setCell (grown_setCell (grown_setCell (grown_refl _ _) _ _) _ _) _ _) hn2_0 xc3_1, grown_cell (b := wc2.heap.size) (grown_setCell (grown_setCell (grown_setCell (grown_refl _ _) _ _) _ _) _ _) hn2_0 xc3_2, grown_cell (b := wc2.heap.size) (grown_setCell (grown_setCell (grown_setCell (grown_refl _ _) _ _) _ _) _ _) hn2_1 xc3_3, grown_cell (b := wc2.heap.size) (grown_setCell (grown_setCell (grown_setCell (grown_refl _ _) _ _) _ _) _ _) hn2_1 xc3_4, grown_cell (b := wc2.heap.size) (grown_setCell (grown_setCell (grown_setCell (grown_refl _ _) _ _) _ _) _ _) hn2_1 xc3_5, grown_cell (b := wc2.heap.size) (grown_setCell (grown_setCell (grown_setCell (grown_refl _ _) _ _) _ _) _ _) hn2_2 xc3_6, grown_cell (b := wc2.heap.size) (grown_setCell (grown_setCell (grown_setCell (grown_refl _ _) _ _) _ _) _ _) hn2_2 xc3_7, grown_cell (b := wc2.heap.size) (grown_setCell (grown_setCell (grown_setCell (grown_refl _ _) _ _) _ _) _ _) hn2_2 xc3_8⟩))
    refine wpAnyH_take (i := 0) (v := ?_) rfl (by kernel_rfl) (by kernel_rfl) (by kernel_rfl) (fun _ _ _ h => h) (Or.inl ⟨by rfl, ?_⟩) (by assumption) ?_
    rotate_left
    · intro w hSw; (try dsimp only at hSw); go_simp; (try with_reducible rfl)
    (try go_simp)
    refine wpAnyH_take (i := 1) (v := ?_) rfl (by kernel_rfl) (by kernel_rfl) (by kernel_rfl) (fun _ _ _ h => h) (Or.inl ⟨by rfl, ?_⟩) (by assumption) ?_
    rotate_left
    · intro w hSw; (try dsimp only at hSw); go_simp; (try with_reducible rfl)
    (try go_simp)
    refine wpAnyH_take (i := 2) (v := ?_) rfl (by kernel_rfl) (by kernel_rfl) (by kernel_rfl) (fun _ _ _ h => h) (Or.inl ⟨by rfl, ?_⟩) (by assumption) ?_
    rotate_left
    · intro w hSw; (try dsimp only at hSw); go_simp; (try with_reducible rfl)
    (try go_simp)
    refine wpAnyH_take (i := 3) (v := ?_) rfl (by kernel_rfl) (by kernel_rfl) (by kernel_rfl) (fun _ _ _ h => h) (Or.inl ⟨by rfl, ?_⟩) (by assumption) ?_
    rotate_left
    · intro w hSw; (try dsimp only at hSw); go_simp; (try with_reducible rfl)
    (try go_simp)
    refine wpAnyH_take (i := 5) (v := ?_) rfl (by kernel_rfl) (by kernel_rfl) (by kernel_rfl) (fun _ _ _ h => h) (Or.inl ⟨by rfl, ?_⟩) (by assumption) ?_
    rotate_left
    · intro w hSw; (try dsimp only at hSw); go_simp; (try with_reducible rfl)
    (try go_simp)
    refine wpAnyH_take (i := 6) (v := ?_) rfl (by kernel_rfl) (by kernel_rfl) (by kernel_rfl) (fun _ _ _ h => h) (Or.inl ⟨by rfl, ?_⟩) (by assumption) ?_
    rotate_left
    · intro w hSw; (try dsimp only at hSw); go_simp; (try with_reducible rfl)
    (try go_simp)
    refine wpAnyH_take (i := 7) (v := ?_) rfl (by kernel_rfl) (by kernel_rfl) (by kernel_rfl) (fun _ _ _ h => h) (Or.inl ⟨by rfl, ?_⟩) (by assumption) ?_
    rotate_left
    · intro w hSw; (try dsimp only at hSw); go_simp; (try with_reducible rfl)
    (try go_simp)
    refine wpAnyH_ready (rs := [4, 13]) (by kernel_rfl) (by simp) ?_
    refine AllReadyH.cons rfl (fun Kc hKc => ?_) ?_
    · skip
      go_simp; go_at_call 31
      (with_reducible refine (scaleTensor_any HR.out Tt.out xe _ _ w11.drew ((ot.tens.ext (h4.trans (h5.trans (h6.trans (h7.trans (h8.trans (h9.trans (h10.trans h11)))))))).ext D0) ((ox.ints.ext (h8.trans (h9.trans (h10.trans h11)))).ext D0)).mono ?_); rintro ec1 wc1 ⟨v1, rfl, os1, hc1⟩; have Ec1 : Ext w11 wc1 := D0.trans hc1; have xc1_0 := Ec1.cell ir0_11; have xc1_1 := Ec1.cell ir1_11; have xc1_2 := Ec1.cell ir2_11; have xc1_3 := Ec1.cell it0_11; have xc1_4 := Ec1.cell it1_11; have xc1_5 := Ec1.cell it2_11; have xc1_6 := Ec1.cell iu0_11; have xc1_7 := Ec1.cell iu1_11; have xc1_8 := Ec1.cell iu2_11; have hEc1s := Ec1.size; obtain ⟨s1p1, s1n1, s1c1, s1p2, s1n2, s1c2, s1p3, s1n3, s1c3, rfl⟩ := os1.shape; have hn1_0 : w1.heap.size ≠ wc1.heap.size := (by omega); have hn1_1 : w3.heap.size ≠ wc1.heap.size := (by omega); have hn1_2 : w5.heap.size ≠ wc1.heap.size := (by omega)
      (try go_simp)
      refine hKc.out _ _ ?_ (fun hHeld => ?_) <;> clear hKc Kc
      · (first | (with_reducible exact ⟨D0.cell ir0_11, D0.cell ir1_11, D0.cell ir2_11, D0.cell it0_11, D0.cell it1_11, D0.cell it2_11, D0.cell iu0_11, D0.cell iu1_11, D0.cell iu2_11⟩) | (with_reducible exact ⟨(((Ext.refl w11).alloc _).drew).cell ir0_11, (((Ext.refl w11).alloc _).drew).cell ir1_11, (((Ext.refl w11).alloc _).drew).cell ir2_11, (((Ext.refl w11).alloc _).drew).cell it0_11, (((Ext.refl w11).alloc _).drew).cell it1_11, (((Ext.refl w11).alloc _).drew).cell it2_11, (((Ext.refl w11).alloc _).drew).cell iu0_11, (((Ext.refl w11).alloc _).drew).cell iu1_11, (((Ext.refl w11).alloc _).drew).cell iu2_11⟩) | (with_reducible exact ⟨xc1_0, xc1_1, xc1_2, xc1_3, xc1_4, xc1_5, xc1_6, xc1_7, xc1_8⟩) | (with_reducible exact ⟨(Ec1.alloc _).cell ir0_11, (Ec1.alloc _).cell ir1_11, (Ec1.alloc _).cell ir2_11, (Ec1.alloc _).cell it0_11, (Ec1.alloc _).cell it1_11, (Ec1.alloc _).cell it2_11, (Ec1.alloc _).cell iu0_11, (Ec1.alloc _).cell iu1_11, (Ec1.alloc _).cell iu2_11⟩) | (with_reducible exact ⟨xc2_0, xc2_1, xc2_2, xc2_3, xc2_4, xc2_5, xc2_6, xc2_7, xc2_8⟩) | (with_reducible exact ⟨(Ec2.alloc _).cell ir0_11, (Ec2.alloc _).cell ir1_11, (Ec2.alloc _).cell ir2_11, (Ec2.alloc _).cell it0_11, (Ec2.alloc _).cell it1_11, (Ec2.alloc _).cell it2_11, (Ec2.alloc _).cell iu0_11, (Ec2.alloc _).cell iu1_11, (Ec2.alloc _).cell iu2_11⟩) | (with_reducible exact ⟨xc3_0, xc3_1, xc3_2, xc3_3, xc3_4, xc3_5, xc3_6, xc3_7, xc3_8⟩) | (with_reducible exact ⟨(Ec3.alloc _).cell ir0_11, (Ec3.alloc _).cell ir1_11, (Ec3.alloc _).cell ir2_11, (Ec3.alloc _).cell it0_11, (Ec3.alloc _).cell it1_11, (Ec3.alloc _).cell it2_11, (Ec3.alloc _).cell iu0_11, (Ec3.alloc _).cell iu1_11, (Ec3.alloc _).cell iu2_11⟩) | (with_reducible exact ⟨grown_cell (b := w11.heap.size) (grown_setCell (grown_setCell (grown_setCell (grown_refl _ _) _ _) _ _) _ _) hn0_0 xc3_0, grown_cell (b := w11.heap.size) (grown_setCell (grown_setCell (grown_setCell (grown_refl _ _) _ _) _ _) _ _) hn0_0 xc3_1, grown_cell (b := w11.heap.size) (grown_setCell (grown_setCell (grown_setCell (grown_refl _ _) _ _) _ _) _ _) hn0_0 xc3_2, grown_cell (b := w11.heap.size) (grown_setCell (grown_setCell (grown_setCell (grown_refl _ _) _ _) _ _) _ _) hn0_1 xc3_3, grown_cell (b := w11.heap.size) (grown_setCell (grown_setCell (grown_setCell (grown_refl _ _) _ _) _ _) _ _) hn0_1 xc3_4, grown_cell (b := w11.heap.size) (grown_setCell (grown_setCell (grown_setCell (grown_refl _ _) _ _) _ _) _ _) hn0_1 xc3_5, grown_cell (b := w11.heap.size) (grown_setCell (grown_setCell (grown_setCell (grown_refl _ _) _ _) _ _) _ _) hn0_2 xc3_6, grown_cell (b := w11.heap.size) (grown_setCell (grown_setCell (grown_setCell (grown_refl _ _) _ _) _ _) _ _) hn0_2 xc3_7, grown_cell (b := w11.heap.size) (grown_setCell (grown_setCell (grown_setCell (grown_refl _ _) _ _) _ _) _ _) hn0_2 xc3_8⟩) | (with_reducible exact ⟨grown_cell (b := wc1.heap.size) (grown_setCell (grown_setCell (grown_setCell (grown_refl _ _) _ _) _ _) _ _) hn1_0 xc3_0, grown_cell (b := wc1.heap.size) (grown_setCell (grown_setCell (grown_setCell (grown_refl _ _) _ _) _ _) _ _) hn1_0 xc3_1, grown_cell (b := wc1.heap.size) (grown_setCell (grown_setCell (grown_setCell (grown_refl _ _) _ _) _ _) _ _) hn1_0 xc3_2, grown_cell (b := wc1.heap.size) (grown_setCell (grown_setCell (grown_setCell (grown_refl _ _) _ _) _ _) _ _) hn1_1 xc3_3, grown_cell (b := wc1.heap.size) (grown_setCell (grown_setCell (grown_setCell (grown_refl _ _) _ _) _ _) _ _) hn1_1 xc3_4, grown_cell (b := wc1.heap.size) (grown_setCell (grown_setCell (grown_setCell (grown_refl _ _) _ _) _ _) _ _) hn1_1 xc3_5, grown_cell (b := wc1.heap.size) (grown_setCell (grown_setCell (grown_setCell (grown_refl _ _) _ _) _ _) _ _) hn1_2 xc3_6, grown_cell (b := wc1.heap.size) (grown_setCell (grown_setCell (grown_setCell (grown_refl _ _) _ _) _ _) _ _) hn1_2 xc3_7, grown_cell (b := wc1.heap.size) (grown_setCell (grown_setCell (grown_setCell (grown_refl _ _) _ _) _ _) _ _) hn1_2 xc3_8⟩) | (with_reducible exact ⟨grown_cell (b := wc2.heap.size) (grown_setCell (grown_setCell (grown_setCell (grown_refl _ _) _ _) _ _) _ _) hn2_0 xc3_0, grown_cell (b := wc2.heap.size) (grown_setCell (grown_setCell (grown_setCell (grown_refl _ _) _ _) _ _) _ _) hn2_0 xc3_1, grown_cell (b := wc2.heap.size) (grown_setCell (grown_setCell (grown_setCell (grown_refl _ _) _ _) _ _) _ _) hn2_0 xc3_2, grown_cell (b := wc2.heap.size) (grown_setCell (grown_setCell (grown_setCell (grown_refl _ _) _ _) _ _) _ _) hn2_1 xc3_3, grown_cell (b := wc2.heap.size) (grown_setCell (grown_setCell (grown_setCell (grown_refl _ _) _ _) _ _) _ _) hn2_1 xc3_4, grown_cell (b := wc2.heap.size) (grown_setCell (grown_setCell (grown_setCell (grown_refl _ _) _ _) _ _) _ _) hn2_1 xc3_5, grown_cell (b := wc2.heap.size) (grown_setCell (grown_setCell (grown_setCell (grown_refl _ _) _ _) _ _) _ _) hn2_2 xc3_6, grown_cell (b := wc2.heap.size) (grown_setCell (grown_setCell (grown_setCell (grown_refl _ _) _ _) _ _) _ _) hn2_2 xc3_7, grown_cell (b := wc2.heap.size) (grown_setCell (grown_setCell (grown_setCell (grown_refl _ _) _ _) _ _) _ _) hn2_2 xc3_8⟩))
      refine wpAnyH_ready (rs := [8, 13]) (by kernel_rfl) (by simp) ?_
      refine AllReadyH.cons rfl (fun Kc hKc => ?_) ?_
      · skip
        go_simp; go_at_call 31
        (with_reducible refine (scaleTensor_any HR.out Tu.out xe _ _ wc1 ((ou.tens.ext (h6.trans (h7.trans (h8.trans (h9.trans (h10.trans h11)))))).ext Ec1) ((ox.ints.ext (h8.trans (h9.trans (h10.trans h11)))).ext Ec1)).mono ?_); rintro ec2 wc2 ⟨v2, rfl, os2, hc2⟩; have Ec2 : Ext w11 wc2 := Ec1.trans hc2; have xc2_0 := Ec2.cell ir0_11; have xc2_1 := Ec2.cell ir1_11; have xc2_2 := Ec2.cell ir2_11; have xc2_3 := Ec2.cell it0_11; have xc2_4 := Ec2.cell it1_11; have xc2_5 := Ec2.cell it2_11; have xc2_6 := Ec2.cell iu0_11; have xc2_7 := Ec2.cell iu1_11; have xc2_8 := Ec2.cell iu2_11; have hEc2s := Ec2.size; obtain ⟨s2p1, s2n1, s2c1, s2p2, s2n2, s2c2, s2p3, s2n3, s2c3, rfl⟩ := os2.shape; have hn2_0 : w1.heap.size ≠ wc2.heap.size := (by omega); have hn2_1 : w3.heap.size ≠ wc2.heap.size := (by omega); have hn2_2 : w5.heap.size ≠ wc2.heap.size := (by omega)
        (try go_simp)
        refine hKc.out _ _ ?_ (fun hHeld => ?_) <;> clear hKc Kc
        · (first | (with_reducible exact ⟨D0.cell ir0_11, D0.cell ir1_11, D0.cell ir2_11, D0.cell it0_11, D0.cell it1_11, D0.cell it2_11, D0.cell iu0_11, D0.cell iu1_11, D0.cell iu2_11⟩) | (with_reducible exact ⟨(((Ext.refl w11).alloc _).drew).cell ir0_11, (((Ext.refl w11).alloc _).drew).cell ir1_11, (((Ext.refl w11).alloc _).drew).cell ir2_11, (((Ext.refl w11).alloc _).drew).cell it0_11, (((Ext.refl w11).alloc _).drew).cell it1_11, (((Ext.refl w11).alloc _).drew).cell it2_11, (((Ext.refl w11).alloc _).drew).cell iu0_11, (((Ext.refl w11).alloc _).drew).cell iu1_11, (((Ext.refl w11).alloc _).drew).cell iu2_11⟩) | (with_reducible exact ⟨xc1_0, xc1_1, xc1_2, xc1_3, xc1_4, xc1_5, xc1_6, xc1_7, xc1_8⟩) | (with_reducible exact ⟨(Ec1.alloc _).cell ir0_11, (Ec1.alloc _).cell ir1_11, (Ec1.alloc _).cell ir2_11, (Ec1.alloc _).cell it0_11, (Ec1.alloc _).cell it1_11, (Ec1.alloc _).cell it2_11, (Ec1.alloc _).cell iu0_11, (Ec1.alloc _).cell iu1_11, (Ec1.alloc _).cell iu2_11⟩) | (with_reducible exact ⟨xc2_0, xc2_1, xc2_2, xc2_3, xc2_4, xc2_5, xc2_6, xc2_7, xc2_8⟩) | (with_reducible exact ⟨(Ec2.alloc _).cell ir0_11, (Ec2.alloc _).cell ir1_11, (Ec2.alloc _).cell ir2_11, (Ec2.alloc _).cell it0_11, (Ec2.alloc _).cell it1_11, (Ec2.alloc _).cell it2_11, (Ec2.alloc _).cell iu0_11, (Ec2.alloc _).cell iu1_11, (Ec2.alloc _).cell iu2_11⟩) | (with_reducible exact ⟨xc3_0, xc3_1, xc3_2, xc3_3, xc3_4, xc3_5, xc3_6, xc3_7, xc3_8⟩) | (with_reducible exact ⟨(Ec3.alloc _).cell ir0_11, (Ec3.alloc _).cell ir1_11, (Ec3.alloc _).cell ir2_11, (Ec3.alloc _).cell it0_11, (Ec3.alloc _).cell it1_11, (Ec3.alloc _).cell it2_11, (Ec3.alloc _).cell iu0_11, (Ec3.alloc _).cell iu1_11, (Ec3.alloc _).cell iu2_11⟩) | (with_reducible exact ⟨grown_cell (b := w11.heap.size) (grown_setCell (grown_setCell (grown_setCell (grown_refl _ _) _ _) _ _) _ _) hn0_0 xc3_0, grown_cell (b := w11.heap.size) (grown_setCell (grown_setCell (grown_setCell (grown_refl _ _) _ _) _ _) _ _) hn0_0 xc3_1, grown_cell (b := w11.heap.size) (grown_setCell (grown_setCell (grown_setCell (grown_refl _ _) _ _) _ _) _ _) hn0_0 xc3_2, grown_cell (b := w11.heap.size) (grown_setCell (grown_setCell (grown_setCell (grown_refl _ _) _ _) _ _) _ _) hn0_1 xc3_3, grown_cell (b := w11.heap.size) (grown_setCell (grown_setCell (grown_setCell (grown_refl _ _) _ _) _ _) _ _) hn0_1 xc3_4, grown_cell (b := w11.heap.size) (grown_setCell (grown_setCell (grown_setCell (grown_refl _ _) _ _) _ _) _ _) hn0_1 xc3_5, grown_cell (b := w11.heap.size) (grown_setCell (grown_setCell (grown_setCell (grown_refl _ _) _ _) _ _) _ _) hn0_2 xc3_6, grown_cell (b := w11.heap.size) (grown_setCell (grown_setCell (grown_setCell (grown_refl _ _) _ _) _ _) _ _) hn0_2 xc3_7, grown_cell (b := w11.heap.size) (grown_setCell (grown_setCell (grown_setCell (grown_refl _ _) _ _) _ _) _ _) hn0_2 xc3_8⟩) | (with_reducible exact ⟨grown_cell (b := wc1.heap.size) (grown_setCell (grown_setCell (grown_setCell (grown_refl _ _) _ _) _ _) _ _) hn1_0 xc3_0, grown_cell (b := wc1.heap.size) (grown_setCell (grown_setCell (grown_setCell (grown_refl _ _) _ _) _ _) _ _) hn1_0 xc3_1, grown_cell (b := wc1.heap.size) (grown_setCell (grown_setCell (grown_setCell (grown_refl _ _) _ _) _ _) _ _) hn1_0 xc3_2, grown_cell (b := wc1.heap.size) (grown_setCell (grown_setCell (grown_setCell (grown_refl _ _) _ _) _ _) _ _) hn1_1 xc3_3, grown_cell (b := wc1.heap.size) (grown_setCell (grown_setCell (grown_setCell (grown_refl _ _) _ _) _ _) _ _) hn1_1 xc3_4, grown_cell (b := wc1.heap.size) (grown_setCell (grown_setCell (grown_setCell (grown_refl _ _) _ _) _ _) _ _) hn1_1 xc3_5, grown_cell (b := wc1.heap.size) (grown_setCell (grown_setCell (grown_setCell (grown_refl _ _) _ _) _ _) _ _) hn1_2 xc3_6, grown_cell (b := wc1.heap.size) (grown_setCell (grown_setCell (grown_setCell (grown_refl _ _) _ _) _ _) _ _) hn1_2 xc3_7, grown_cell (b := wc1.heap.size) (grown_setCell (grown_setCell (grown_setCell (grown_refl _ _) _ _) _ _) _ _) hn1_2 xc3_8⟩) | (with_reducible exact ⟨grown_cell (b := wc2.heap.size) (grown_setCell (grown_setCell (grown_setCell (grown_refl _ _) _ _) _ _) _ _) hn2_0 xc3_0, grown_cell (b := wc2.heap.size) (grown_setCell (grown_setCell (grown_setCell (grown_refl _ _) _ _) _ _) _ _) hn2_0 xc3_1, grown_cell (b := wc2.heap.size) (grown_setCell (grown_setCell (grown_setCell (grown_refl _ _) _ _) _ _) _ _) hn2_0 xc3_2, grown_cell (b := wc2.heap.size) (grown_setCell (grown_setCell (grown_setCell (grown_refl _ _) _ _) _ _) _ _) hn2_1 xc3_3, grown_cell (b := wc2.heap.size) (grown_setCell (grown_setCell (grown_setCell (grown_refl _ _) _ _) _ _) _ _) hn2_1 xc3_4, grown_cell (b := wc2.heap.size) (grown_setCell (grown_setCell (grown_setCell (grown_refl _ _) _ _) _ _) _ _) hn2_1 xc3_5, grown_cell (b := wc2.heap.size) (grown_setCell (grown_setCell (grown_setCell (grown_refl _ _) _ _) _ _) _ _) hn2_2 xc3_6, grown_cell (b := wc2.heap.size) (grown_setCell (grown_setCell (grown_setCell (grown_refl _ _) _ _) _ _) _ _) hn2_2 xc3_7, grown_cell (b := wc2.heap.size) (grown_setCell (grown_setCell (grown_setCell (grown_refl _ _) _ _) _ _) _ _) hn2_2 xc3_8⟩))
        refine wpAnyH_ready (rs := [9, 13]) (by kernel_rfl) (by simp) ?_
        refine AllReadyH.cons rfl (fun Kc hKc => ?_) ?_
        · skip
          go_simp; go_at_call 30
          (with_reducible refine (addTensors_any HR.out TSt.out TSu.out HP.out _ _ wc2 (os1.tens.ext ((Ext.refl wc1).trans hc2)) (os2.tens.ext (Ext.refl wc2))).mono ?_); rintro ec3 wc3 ⟨v3, rfl, oc, hc3⟩; have Ec3 : Ext w11 wc3 := Ec2.trans hc3; have xc3_0 := Ec3.cell ir0_11; have xc3_1 := Ec3.cell ir1_11; have xc3_2 := Ec3.cell ir2_11; have xc3_3 := Ec3.cell it0_11; have xc3_4 := Ec3.cell it1_11; have xc3_5 := Ec3.cell it2_11; have xc3_6 := Ec3.cell iu0_11; have xc3_7 := Ec3.cell iu1_11; have xc3_8 := Ec3.cell iu2_11; have hEc3s := Ec3.size; obtain ⟨cp1, cn1, cc1, cp2, cn2, cc2, cp3, cn3, cc3, rfl⟩ := oc.shape; have o4m := oc.mono (B' := w11.heap.size) (by omega); have hn3_0 : w1.heap.size ≠ wc3.heap.size := (by omega); have hn3_1 : w3.heap.size ≠ wc3.heap.size := (by omega); have hn3_2 : w5.heap.size ≠ wc3.heap.size := (by omega)
          (try go_simp)
          refine hKc.out _ _ ?_ (fun hHeld => ?_) <;> clear hKc Kc
          · (first | (with_reducible exact ⟨D0.cell ir0_11, D0.cell ir1_11, D0.cell ir2_11, D0.cell it0_11, D0.cell it1_11, D0.cell it2_11, D0.cell iu0_11, D0.cell iu1_11, D0.cell iu2_11⟩) | (with_reducible exact ⟨(((Ext.refl w11).alloc _).drew).cell ir0_11, (((Ext.refl w11).alloc _).drew).cell ir1_11, (((Ext.refl w11).alloc _).drew).cell ir2_11, (((Ext.refl w11).alloc _).drew).cell it0_11, (((Ext.refl w11).alloc _).drew).cell it1_11, (((Ext.refl w11).alloc _).drew).cell it2_11, (((Ext.refl w11).alloc _).drew).cell iu0_11, (((Ext.refl w11).alloc _).drew).cell iu1_11, (((Ext.refl w11).alloc _).drew).cell iu2_11⟩) | (with_reducible exact ⟨xc1_0, xc1_1, xc1_2, xc1_3, xc1_4, xc1_5, xc1_6, xc1_7, xc1_8⟩) | (with_reducible exact ⟨(Ec1.alloc _).cell ir0_11, (Ec1.alloc _).cell ir1_11, (Ec1.alloc _).cell ir2_11, (Ec1.alloc _).cell it0_11, (Ec1.alloc _).cell it1_11, (Ec1.alloc _).cell it2_11, (Ec1.alloc _).cell iu0_11, (Ec1.alloc _).cell iu1_11, (Ec1.alloc _).cell iu2_11⟩) | (with_reducible exact ⟨xc2_0, xc2_1, xc2_2, xc2_3, xc2_4, xc2_5, xc2_6, xc2_7, xc2_8⟩) | (with_reducible exact ⟨(Ec2.alloc _).cell ir0_11, (Ec2.alloc _).cell ir1_11, (Ec2.alloc _).cell ir2_11, (Ec2.alloc _).cell it0_11, (Ec2.alloc _).cell it1_11, (Ec2.alloc _).cell it2_11, (Ec2.alloc _).cell iu0_11, (Ec2.alloc _).cell iu1_11, (Ec2.alloc _).cell iu2_11⟩) | (with_reducible exact ⟨xc3_0, xc3_1, xc3_2, xc3_3, xc3_4, xc3_5, xc3_6, xc3_7, xc3_8⟩) | (with_reducible exact ⟨(Ec3.alloc _).cell ir0_11, (Ec3.alloc _).cell ir1_11, (Ec3.alloc _).cell ir2_11, (Ec3.alloc _).cell it0_11, (Ec3.alloc _).cell it1_11, (Ec3.alloc _).cell it2_11, (Ec3.alloc _).cell iu0_11, (Ec3.alloc _).cell iu1_11, (Ec3.alloc _).cell iu2_11⟩) | (with_reducible exact ⟨grown_cell (b := w11.heap.size) (grown_setCell (grown_setCell (grown_setCell (grown_refl _ _) _ _) _ _) _ _) hn0_0 xc3_0, grown_cell (b := w11.heap.size) (grown_setCell (grown_setCell (grown_setCell (grown_refl _ _) _ _) _ _) _ _) hn0_0 xc3_1, grown_cell (b := w11.heap.size) (grown_setCell (grown_setCell (grown_setCell (grown_refl _ _) _ _) _ _) _ _) hn0_0 xc3_2, grown_cell (b := w11.heap.size) (grown_setCell (grown_setCell (grown_setCell (grown_refl _ _) _ _) _ _) _ _) hn0_1 xc3_3, grown_cell (b := w11.heap.size) (grown_setCell (grown_setCell (grown_setCell (grown_refl _ _) _ _) _ _) _ _) hn0_1 xc3_4, grown_cell (b := w11.heap.size) (grown_setCell (grown_setCell (grown_setCell (grown_refl _ _) _ _) _ _) _ _) hn0_1 xc3_5, grown_cell (b := w11.heap.size) (grown_setCell (grown_setCell (grown_setCell (grown_refl _ _) _ _) _ _) _ _) hn0_2 xc3_6, grown_cell (b := w11.heap.size) (grown_setCell (grown_setCell (grown_setCell (grown_refl _ _) _ _) _ _) _ _) hn0_2 xc3_7, grown_cell (b := w11.heap.size) (grown_setCell (grown_setCell (grown_setCell (grown_refl _ _) _ _) _ _) _ _) hn0_2 xc3_8⟩) | (with_reducible exact ⟨grown_cell (b := wc1.heap.size) (grown_setCell (grown_setCell (grown_setCell (grown_refl _ _) _ _) _ _) _ _) hn1_0 xc3_0, grown_cell (b := wc1.heap.size) (grown_setCell (grown_setCell (grown_setCell (grown_refl _ _) _ _) _ _) _ _) hn1_0 xc3_1, grown_cell (b := wc1.heap.size) (grown_setCell (grown_setCell (grown_setCell (grown_refl _ _) _ _) _ _) _ _) hn1_0 xc3_2, grown_cell (b := wc1.heap.size) (grown_setCell (grown_setCell (grown_setCell (grown_refl _ _) _ _) _ _) _ _) hn1_1 xc3_3, grown_cell (b := wc1.heap.size) (grown_setCell (grown_setCell (grown_setCell (grown_refl _ _) _ _) _ _) _ _) hn1_1 xc3_4, grown_cell (b := wc1.heap.size) (grown_setCell (grown_setCell (grown_setCell (grown_refl _ _) _ _) _ _) _ _) hn1_1 xc3_5, grown_cell (b := wc1.heap.size) (grown_setCell (grown_setCell (grown_setCell (grown_refl _ _) _ _) _ _) _ _) hn1_2 xc3_6, grown_cell (b := wc1.heap.size) (grown_setCell (grown_setCell (grown_setCell (grown_refl _ _) _ _) _ _) _ _) hn1_2 xc3_7, grown_cell (b := wc1.heap.size) (grown_setCell (grown_setCell (grown_setCell (grown_refl _ _) _ _) _ _) _ _) hn1_2 xc3_8⟩) | (with_reducible exact ⟨grown_cell (b := wc2.heap.size) (grown_setCell (grown_setCell (grown_setCell (grown_refl _ _) _ _) _ _) _ _) hn2_0 xc3_0, grown_cell (b := wc2.heap.size) (grown_setCell (grown_setCell (grown_setCell (grown_refl _ _) _ _) _ _) _ _) hn2_0 xc3_1, grown_cell (b := wc2.heap.size) (grown_setCell (grown_setCell (grown_setCell (grown_refl _ _) _ _) _ _) _ _) hn2_0 xc3_2, grown_cell (b := wc2.heap.size) (grown_setCell (grown_setCell (grown_setCell (grown_refl _ _) _ _) _ _) _ _) hn2_1 xc3_3, grown_cell (b := wc2.heap.size) (grown_setCell (grown_setCell (grown_setCell (grown_refl _ _) _ _) _ _) _ _) hn2_1 xc3_4, grown_cell (b := wc2.heap.size) (grown_setCell (grown_setCell (grown_setCell (grown_refl _ _) _ _) _ _) _ _) hn2_1 xc3_5, grown_cell (b := wc2.heap.size) (grown_setCell (grown_setCell (grown_setCell (grown_refl _ _) _ _) _ _) _ _) hn2_2 xc3_6, grown_cell (b := wc2.heap.size) (grown_setCell (grown_setCell (grown_setCell (grown_refl _ _) _ _) _ _) _ _) hn2_2 xc3_7, grown_cell (b := wc2.heap.size) (grown_setCell (grown_setCell (grown_setCell (grown_refl _ _) _ _) _ _) _ _) hn2_2 xc3_8⟩))
          refine wpAnyH_take (i := 10) (v := ?_) rfl (by kernel_rfl) (by kernel_rfl) (by kernel_rfl) (fun _ _ _ h => h) (Or.inl ⟨by rfl, ?_⟩) (by assumption) ?_
          rotate_left
          · intro w hSw; (try dsimp only at hSw); go_simp; (try with_reducible rfl)
          (try go_simp)
          refine wpAnyH_take (i := 11) (v := ?_) rfl (by kernel_rfl) (by kernel_rfl) (by kernel_rfl) (fun _ _ _ h => h) (Or.inl ⟨by rfl, ?_⟩) (by assumption) ?_
          rotate_left
          · intro w hSw; (try dsimp only at hSw); go_simp; (try with_reducible rfl)
          (try go_simp)
          refine wpAnyH_take (i := 12) (v := ?_) rfl (by kernel_rfl) (by kernel_rfl) (by kernel_rfl) (fun _ _ _ h => h) (Or.inl ⟨by rfl, ?_⟩) (by assumption) ?_
          rotate_left
          · intro w hSw; (try dsimp only at hSw); go_simp; (try with_reducible rfl)
          (try go_simp)
          refine wpAnyH_ready (rs := [13]) (by kernel_rfl) (by simp) ?_
          refine AllReadyH.cons rfl (fun Kc hKc => ?_) AllReadyH.nil
          go_simp
          refine hKc.out _ _ ?_ (fun hHeld => ?_) <;> clear hKc Kc
          · (first | (with_reducible exact ⟨D0.cell ir0_11, D0.cell ir1_11, D0.cell ir2_11, D0.cell it0_11, D0.cell it1_11, D0.cell it2_11, D0.cell iu0_11, D0.cell iu1_11, D0.cell iu2_11⟩) | (with_reducible exact ⟨(((Ext.refl w11).alloc _).drew).cell ir0_11, (((Ext.refl w11).alloc _).drew).cell ir1_11, (((Ext.refl w11).alloc _).drew).cell ir2_11, (((Ext.refl w11).alloc _).drew).cell it0_11, (((Ext.refl w11).alloc _).drew).cell it1_11, (((Ext.refl w11).alloc _).drew).cell it2_11, (((Ext.refl w11).alloc _).drew).cell iu0_11, (((Ext.refl w11).alloc _).drew).cell iu1_11, (((Ext.refl w11).alloc _).drew).cell iu2_11⟩) | (with_reducible exact ⟨xc1_0, xc1_1, xc1_2, xc1_3, xc1_4, xc1_5, xc1_6, xc1_7, xc1_8⟩) | (with_reducible exact ⟨(Ec1.alloc _).cell ir0_11, (Ec1.alloc _).cell ir1_11, (Ec1.alloc _).cell ir2_11, (Ec1.alloc _).cell it0_11, (Ec1.alloc _).cell it1_11, (Ec1.alloc _).cell it2_11, (Ec1.alloc _).cell iu0_11, (Ec1.alloc _).cell iu1_11, (Ec1.alloc _).cell iu2_11⟩) | (with_reducible exact ⟨xc2_0, xc2_1, xc2_2, xc2_3, xc2_4, xc2_5, xc2_6, xc2_7, xc2_8⟩) | (with_reducible exact ⟨(Ec2.alloc _).cell ir0_11, (Ec2.alloc _).cell ir1_11, (Ec2.alloc _).cell ir2_11, (Ec2.alloc _).cell it0_11, (Ec2.alloc _).cell it1_11, (Ec2.alloc _).cell it2_11, (Ec2.alloc _).cell iu0_11, (Ec2.alloc _).cell iu1_11, (Ec2.alloc _).cell iu2_11⟩) | (with_reducible exact ⟨xc3_0, xc3_1, xc3_2, xc3_3, xc3_4, xc3_5, xc3_6, xc3_7, xc3_8⟩) | (with_reducible exact ⟨(Ec3.alloc _).cell ir0_11, (Ec3.alloc _).cell ir1_11, (Ec3.alloc _).cell ir2_11, (Ec3.alloc _).cell it0_11, (Ec3.alloc _).cell it1_11, (Ec3.alloc _).cell it2_11, (Ec3.alloc _).cell iu0_11, (Ec3.alloc _).cell iu1_11, (Ec3.alloc _).cell iu2_11⟩) | (with_reducible exact ⟨grown_cell (b := w11.heap.size) (grown_setCell (grown_setCell (grown_setCell (grown_refl _ _) _ _) _ _) _ _) hn0_0 xc3_0, grown_cell (b := w11.heap.size) (grown_setCell (grown_setCell (grown_setCell (grown_refl _ _) _ _) _ _) _ _) hn0_0 xc3_1, grown_cell (b := w11.heap.size) (grown_setCell (grown_setCell (grown_setCell (grown_refl _ _) _ _) _ _) _ _) hn0_0 xc3_2, grown_cell (b := w11.heap.size) (grown_setCell (grown_setCell (grown_setCell (grown_refl _ _) _ _) _ _) _ _) hn0_1 xc3_3, grown_cell (b := w11.heap.size) (grown_setCell (grown_setCell (grown_setCell (grown_refl _ _) _ _) _ _) _ _) hn0_1 xc3_4, grown_cell (b := w11.heap.size) (grown_setCell (grown_setCell (grown_setCell (grown_refl _ _) _ _) _ _) _ _) hn0_1 xc3_5, grown_cell (b := w11.heap.size) (grown_setCell (grown_setCell (grown_setCell (grown_refl _ _) _ _) _ _) _ _) hn0_2 xc3_6, grown_cell (b := w11.heap.size) (grown_setCell (grown_setCell (grown_setCell (grown_refl _ _) _ _) _ _) _ _) hn0_2 xc3_7, grown_cell (b := w11.heap.size) (grown_setCell (grown_setCell (grown_setCell (grown_refl _ _) _ _) _ _) _ _) hn0_2 xc3_8⟩) | (with_reducible exact ⟨grown_cell (b := wc1.heap.size) (grown_setCell (grown_setCell (grown_setCell (grown_refl _ _) _ _) _ _) _ _) hn1_0 xc3_0, grown_cell (b := wc1.heap.size) (grown_setCell (grown_setCell (grown_setCell (grown_refl _ _) _ _) _ _) _ _) hn1_0 xc3_1, grown_cell (b := wc1.heap.size) (grown_setCell (grown_setCell (grown_setCell (grown_refl _ _) _ _) _ _) _ _) hn1_0 xc3_2, grown_cell (b := wc1.heap.size) (grown_setCell (grown_setCell (grown_setCell (grown_refl _ _) _ _) _ _) _ _) hn1_1 xc3_3, grown_cell (b := wc1.heap.size) (grown_setCell (grown_setCell (grown_setCell (grown_refl _ _) _ _) _ _) _ _) hn1_1 xc3_4, grown_cell (b := wc1.heap.size) (grown_setCell (grown_setCell (grown_setCell (grown_refl _ _) _ _) _ _) _ _) hn1_1 xc3_5, grown_cell (b := wc1.heap.size) (grown_setCell (grown_setCell (grown_setCell (grown_refl _ _) _ _) _ _) _ _) hn1_2 xc3_6, grown_cell (b := wc1.heap.size) (grown_setCell (grown_setCell (grown_setCell (grown_refl _ _) _ _) _ _) _ _) hn1_2 xc3_7, grown_cell (b := wc1.heap.size) (grown_setCell (grown_setCell (grown_setCell (grown_refl _ _) _ _) _ _) _ _) hn1_2 xc3_8⟩) | (with_reducible exact ⟨grown_cell (b := wc2.heap.size) (grown_setCell (grown_setCell (grown_setCell (grown_refl _ _) _ _) _ _) _ _) hn2_0 xc3_0, grown_cell (b := wc2.heap.size) (grown_setCell (grown_setCell (grown_setCell (grown_refl _ _) _ _) _ _) _ _) hn2_0 xc3_1, grown_cell (b := wc2.heap.size) (grown_setCell (grown_setCell (grown_setCell (grown_refl _ _) _ _) _ _) _ _) hn2_0 xc3_2, grown_cell (b := wc2.heap.size) (grown_setCell (grown_setCell (grown_setCell (grown_refl _ _) _ _) _ _) _ _) hn2_1 xc3_3, grown_cell (b := wc2.heap.size) (grown_setCell (grown_setCell (grown_setCell (grown_refl _ _) _ _) _ _) _ _) hn2_1 xc3_4, grown_cell (b := wc2.heap.size) (grown_setCell (grown_setCell (grown_setCell (grown_refl _ _) _ _) _ _) _ _) hn2_1 xc3_5, grown_cell (b := wc2.heap.size) (grown_setCell (grown_setCell (grown_setCell (grown_refl _ _) _ _) _ _) _ _) hn2_2 xc3_6, grown_cell (b := wc2.heap.size) (grown_setCell (grown_setCell (grown_setCell (grown_refl _ _) _ _) _ _) _ _) hn2_2 xc3_7, grown_cell (b := wc2.heap.size) (grown_setCell (grown_setCell (grown_setCell (grown_refl _ _) _ _) _ _) _ _) hn2_2 xc3_8⟩))
          refine wpAnyH_ready (rs := [14]) (by kernel_rfl) (by simp) ?_
          refine AllReadyH.cons rfl (fun Kc hKc => ?_) AllReadyH.nil
          go_simp
          refine hKc.out _ _ ?_ (fun hHeld => ?_) <;> clear hKc Kc
          · (first | (with_reducible exact ⟨D0.cell ir0_11, D0.cell ir1_11, D0.cell ir2_11, D0.cell it0_11, D0.cell it1_11, D0.cell it2_11, D0.cell iu0_11, D0.cell iu1_11, D0.cell iu2_11⟩) | (with_reducible exact ⟨(((Ext.refl w11).alloc _).drew).cell ir0_11, (((Ext.refl w11).alloc _).drew).cell ir1_11, (((Ext.refl w11).alloc _).drew).cell ir2_11, (((Ext.refl w11).alloc _).drew).cell it0_11, (((Ext.refl w11).alloc _).drew).cell it1_11, (((Ext.refl w11).alloc _).drew).cell it2_11, (((Ext.refl w11).alloc _).drew).cell iu0_11, (((Ext.refl w11).alloc _).drew).cell iu1_11, (((Ext.refl w11).alloc _).drew).cell iu2_11⟩) | (with_reducible exact ⟨xc1_0, xc1_1, xc1_2, xc1_3, xc1_4, xc1_5, xc1_6, xc1_7, xc1_8⟩) | (with_reducible exact ⟨(Ec1.alloc _).cell ir0_11, (Ec1.alloc _).cell ir1_11, (Ec1.alloc _).cell ir2_11, (Ec1.alloc _).cell it0_11, (Ec1.alloc _).cell it1_11, (Ec1.alloc _).cell it2_11, (Ec1.alloc _).cell iu0_11, (Ec1.alloc _).cell iu1_11, (Ec1.alloc _).cell iu2_11⟩) | (with_reducible exact ⟨xc2_0, xc2_1, xc2_2, xc2_3, xc2_4, xc2_5, xc2_6, xc2_7, xc2_8⟩) | (with_reducible exact ⟨(Ec2.alloc _).cell ir0_11, (Ec2.alloc _).cell ir1_11, (Ec2.alloc _).cell ir2_11, (Ec2.alloc _).cell it0_11, (Ec2.alloc _).cell it1_11, (Ec2.alloc _).cell it2_11, (Ec2.alloc _).cell iu0_11, (Ec2.alloc _).cell iu1_11, (Ec2.alloc _).cell iu2_11⟩) | (with_reducible exact ⟨xc3_0, xc3_1, xc3_2, xc3_3, xc3_4, xc3_5, xc3_6, xc3_7, xc3_8⟩) | (with_reducible exact ⟨(Ec3.alloc _).cell ir0_11, (Ec3.alloc _).cell ir1_11, (Ec3.alloc _).cell ir2_11, (Ec3.alloc _).cell it0_11, (Ec3.alloc _).cell it1_11, (Ec3.alloc _).cell it2_11, (Ec3.alloc _).cell iu0_11, (Ec3.alloc _).cell iu1_11, (Ec3.alloc _).cell iu2_11⟩) | (with_reducible exact ⟨grown_cell (b := w11.heap.size) (grown_setCell (grown_setCell (grown_setCell (grown_refl _ _) _ _) _ _) _ _) hn0_0 xc3_0, grown_cell (b := w11.heap.size) (grown_setCell (grown_setCell (grown_setCell (grown_refl _ _) _ _) _ _) _ _) hn0_0 xc3_1, grown_cell (b := w11.heap.size) (grown_setCell (grown_setCell (grown_setCell (grown_refl _ _) _ _) _ _) _ _) hn0_0 xc3_2, grown_cell (b := w11.heap.size) (grown_setCell (grown_setCell (grown_setCell (grown_refl _ _) _ _) _ _) _ _) hn0_1 xc3_3, grown_cell (b := w11.heap.size) (grown_setCell (grown_setCell (grown_setCell (grown_refl _ _) _ _) _ _) _ _) hn0_1 xc3_4, grown_cell (b := w11.heap.size) (grown_setCell (grown_setCell (grown_setCell (grown_refl _ _) _ _) _ _) _ _) hn0_1 xc3_5, grown_cell (b := w11.heap.size) (grown_setCell (grown_setCell (grown_setCell (grown_refl _ _) _ _) _ _) _ _) hn0_2 xc3_6, grown_cell (b := w11.heap.size) (grown_setCell (grown_setCell (grown_setCell (grown_refl _ _) _ _) _ _) _ _) hn0_2 xc3_7, grown_cell (b := w11.heap.size) (grown_setCell (grown_setCell (grown_setCell (grown_refl _ _) _ _) _ _) _ _) hn0_2 xc3_8⟩) | (with_reducible exact ⟨grown_cell (b := wc1.heap.size) (grown_setCell (grown_setCell (grown_setCell (grown_refl _ _) _ _) _ _) _ _) hn1_0 xc3_0, grown_cell (b := wc1.heap.size) (grown_setCell (grown_setCell (grown_setCell (grown_refl _ _) _ _) _ _) _ _) hn1_0 xc3_1, grown_cell (b := wc1.heap.size) (grown_setCell (grown_setCell (grown_setCell (grown_refl _ _) _ _) _ _) _ _) hn1_0 xc3_2, grown_cell (b := wc1.heap.size) (grown_setCell (grown_setCell (grown_setCell (grown_refl _ _) _ _) _ _) _ _) hn1_1 xc3_3, grown_cell (b := wc1.heap.size) (grown_setCell (grown_setCell (grown_setCell (grown_refl _ _) _ _) _ _) _ _) hn1_1 xc3_4, grown_cell (b := wc1.heap.size) (grown_setCell (grown_setCell (grown_setCell (grown_refl _ _) _ _) _ _) _ _) hn1_1 xc3_5, grown_cell (b := wc1.heap.size) (grown_setCell (grown_setCell (grown_setCell (grown_refl _ _) _ _) _ _) _ _) hn1_2 xc3_6, grown_cell (b := wc1.heap.size) (grown_setCell (grown_setCell (grown_setCell (grown_refl _ _) _ _) _ _) _ _) hn1_2 xc3_7, grown_cell (b := wc1.heap.size) (grown_setCell (grown_setCell (grown_setCell (grown_refl _ _) _ _) _ _) _ _) hn1_2 xc3_8⟩) | (with_reducible exact ⟨grown_cell (b := wc2.heap.size) (grown_setCell (grown_setCell (grown_setCell (grown_refl _ _) _ _) _ _) _ _) hn2_0 xc3_0, grown_cell (b := wc2.heap.size) (grown_setCell (grown_setCell (grown_setCell (grown_refl _ _) _ _) _ _) _ _) hn2_0 xc3_1, grown_cell (b := wc2.heap.size) (grown_setCell (grown_setCell (grown_setCell (grown_refl _ _) _ _) _ _) _ _) hn2_0 xc3_2, grown_cell (b := wc2.heap.size) (grown_setCell (grown_setCell (grown_setCell (grown_refl _ _) _ _) _ _) _ _) hn2_1 xc3_3, grown_cell (b := wc2.heap.size) (grown_setCell (grown_setCell (grown_setCell (grown_refl _ _) _ _) _ _) _ _) hn2_1 xc3_4, grown_cell (b := wc2.heap.size) (grown_setCell (grown_setCell (grown_setCell (grown_refl _ _) _ _) _ _) _ _) hn2_1 xc3_5, grown_cell (b := wc2.heap.size) (grown_setCell (grown_setCell (grown_setCell (grown_refl _ _) _ _) _ _) _ _) hn2_2 xc3_6, grown_cell (b := wc2.heap.size) (grown_setCell (grown_setCell (grown_setCell (grown_refl _ _) _ _) _ _) _ _) hn2_2 xc3_7, grown_cell (b := wc2.heap.size) (grown_setCell (grown_setCell (grown_setCell (grown_refl _ _) _ _) _ _) _ _) hn2_2 xc3_8⟩))
          refine wpAnyH_ready (rs := [15]) (by kernel_rfl) (by simp) ?_
          refine AllReadyH.cons rfl (fun Kc hKc => ?_) AllReadyH.nil
          go_simp
          refine hKc.out _ _ ?_ (fun hHeld => ?_) <;> clear hKc Kc
          · (first | (with_reducible exact ⟨D0.cell ir0_11, D0.cell ir1_11, D0.cell ir2_11, D0.cell it0_11, D0.cell it1_11, D0.cell it2_11, D0.cell iu0_11, D0.cell iu1_11, D0.cell iu2_11⟩) | (with_reducible exact ⟨(((Ext.refl w11).alloc _).drew).cell ir0_11, (((Ext.refl w11).alloc _).drew).cell ir1_11, (((Ext.refl w11).alloc _).drew).cell ir2_11, (((Ext.refl w11).alloc _).drew).cell it0_11, (((Ext.refl w11).alloc _).drew).cell it1_11, (((Ext.refl w11).alloc _).drew).cell it2_11, (((Ext.refl w11).alloc _).drew).cell iu0_11, (((Ext.refl w11).alloc _).drew).cell iu1_11, (((Ext.refl w11).alloc _).drew).cell iu2_11⟩) | (with_reducible exact ⟨xc1_0, xc1_1, xc1_2, xc1_3, xc1_4, xc1_5, xc1_6, xc1_7, xc1_8⟩) | (with_reducible exact ⟨(Ec1.alloc _).cell ir0_11, (Ec1.alloc _).cell ir1_11, (Ec1.alloc _).cell ir2_11, (Ec1.alloc _).cell it0_11, (Ec1.alloc _).cell it1_11, (Ec1.alloc _).cell it2_11, (Ec1.alloc _).cell iu0_11, (Ec1.alloc _).cell iu1_11, (Ec1.alloc _).cell iu2_11⟩) | (with_reducible exact ⟨xc2_0, xc2_1, xc2_2, xc2_3, xc2_4, xc2_5, xc2_6, xc2_7, xc2_8⟩) | (with_reducible exact ⟨(Ec2.alloc _).cell ir0_11, (Ec2.alloc _).cell ir1_11, (Ec2.alloc _).cell ir2_11, (Ec2.alloc _).cell it0_11, (Ec2.alloc _).cell it1_11, (Ec2.alloc _).cell it2_11, (Ec2.alloc _).cell iu0_11, (Ec2.alloc _).cell iu1_11, (Ec2.alloc _).cell iu2_11⟩) | (with_reducible exact ⟨xc3_0, xc3_1, xc3_2, xc3_3, xc3_4, xc3_5, xc3_6, xc3_7, xc3_8⟩) | (with_reducible exact ⟨(Ec3.alloc _).cell ir0_11, (Ec3.alloc _).cell ir1_11, (Ec3.alloc _).cell ir2_11, (Ec3.alloc _).cell it0_11, (Ec3.alloc _).cell it1_11, (Ec3.alloc _).cell it2_11, (Ec3.alloc _).cell iu0_11, (Ec3.alloc _).cell iu1_11, (Ec3.alloc _).cell iu2_11⟩) | (with_reducible exact ⟨grown_cell (b := w11.heap.size) (grown_setCell (grown_setCell (grown_setCell (grown_refl _ _) _ _) _ _) _ _) hn0_0 xc3_0, grown_cell (b := w11.heap.size) (grown_setCell (grown_setCell (grown_setCell (grown_refl _ _) _ _) _ _) _ _) hn0_0 xc3_1, grown_cell (b := w11.heap.size) (grown_setCell (grown_setCell (grown_setCell (grown_refl _ _) _ _) _ _) _ _) hn0_0 xc3_2, grown_cell (b := w11.heap.size) (grown_setCell (grown_setCell (grown_setCell (grown_refl _ _) _ _) _ _) _ _) hn0_1 xc3_3, grown_cell (b := w11.heap.size) (grown_setCell (grown_setCell (grown_setCell (grown_refl _ _) _ _) _ _) _ _) hn0_1 xc3_4, grown_cell (b := w11.heap.size) (grown_setCell (grown_setCell (grown_setCell (grown_refl _ _) _ _) _ _) _ _) hn0_1 xc3_5, grown_cell (b := w11.heap.size) (grown_setCell (grown_setCell (grown_setCell (grown_refl _ _) _ _) _ _) _ _) hn0_2 xc3_6, grown_cell (b := w11.heap.size) (grown_setCell (grown_setCell (grown_setCell (grown_refl _ _) _ _) _ _) _ _) hn0_2 xc3_7, grown_cell (b := w11.heap.size) (grown_setCell (grown_setCell (grown_setCell (grown_refl _ _) _ _) _ _) _ _) hn0_2 xc3_8⟩) | (with_reducible exact ⟨grown_cell (b := wc1.heap.size) (grown_setCell (grown_setCell (grown_setCell (grown_refl _ _) _ _) _ _) _ _) hn1_0 xc3_0, grown_cell (b := wc1.heap.size) (grown_setCell (grown_setCell (grown_setCell (grown_refl _ _) _ _) _ _) _ _) hn1_0 xc3_1, grown_cell (b := wc1.heap.size) (grown_setCell (grown_setCell (grown_setCell (grown_refl _ _) _ _) _ _) _ _) hn1_0 xc3_2, grown_cell (b := wc1.heap.size) (grown_setCell (grown_setCell (grown_setCell (grown_refl _ _) _ _) _ _) _ _) hn1_1 xc3_3, grown_cell (b := wc1.heap.size) (grown_setCell (grown_setCell (grown_setCell (grown_refl _ _) _ _) _ _) _ _) hn1_1 xc3_4, grown_cell (b := wc1.heap.size) (grown_setCell (grown_setCell (grown_setCell (grown_refl _ _) _ _) _ _) _ _) hn1_1 xc3_5, grown_cell (b := wc1.heap.size) (grown_setCell (grown_setCell (grown_setCell (grown_refl _ _) _ _) _ _) _ _) hn1_2 xc3_6, grown_cell (b := wc1.heap.size) (grown_setCell (grown_setCell (grown_setCell (grown_refl _ _) _ _) _ _) _ _) hn1_2 xc3_7, grown_cell (b := wc1.heap.size) (grown_setCell (grown_setCell (grown_setCell (grown_refl _ _) _ _) _ _) _ _) hn1_2 xc3_8⟩) | (with_reducible exact ⟨grown_cell (b := wc2.heap.size) (grown_setCell (grown_setCell (grown_setCell (grown_refl _ _) _ _) _ _) _ _) hn2_0 xc3_0, grown_cell (b := wc2.heap.size) (grown_setCell (grown_setCell (grown_setCell (grown_refl _ _) _ _) _ _) _ _) hn2_0 xc3_1, grown_cell (b := wc2.heap.size) (grown_setCell (grown_setCell (grown_setCell (grown_refl _ _) _ _) _ _) _ _) hn2_0 xc3_2, grown_cell (b := wc2.heap.size) (grown_setCell (grown_setCell (grown_setCell (grown_refl _ _) _ _) _ _) _ _) hn2_1 xc3_3, grown_cell (b := wc2.heap.size) (grown_setCell (grown_setCell (grown_setCell (grown_refl _ _) _ _) _ _) _ _) hn2_1 xc3_4, grown_cell (b := wc2.heap.size) (grown_setCell (grown_setCell (grown_setCell (grown_refl _ _) _ _) _ _) _ _) hn2_1 xc3_5, grown_cell (b := wc2.heap.size) (grown_setCell (grown_setCell (grown_setCell (grown_refl _ _) _ _) _ _) _ _) hn2_2 xc3_6, grown_cell (b := wc2.heap.size) (grown_setCell (grown_setCell (grown_setCell (grown_refl _ _) _ _) _ _) _ _) hn2_2 xc3_7, grown_cell (b := wc2.heap.size) (grown_setCell (grown_setCell (grown_setCell (grown_refl _ _) _ _) _ _) _ _) hn2_2 xc3_8⟩))
          refine wpAnyH_done (by kernel_rfl) ?_ _
          go_wp2_with fail
          go_meet
          exact ⟨wc3.heap.size, cp1, cn1, cc1, cp2, cn2, cc2, cp3, cn3, cc3, rfl, rfl, Blk.new wc3 #[.slice cp1 cn1 cc1, .slice cp2 cn2 cc2, .slice cp3 cn3 cc3] _, Ec3.alloc _, o4m.ext ((Ext.refl _).alloc _)⟩
        refine AllReadyH.cons rfl (fun Kc hKc => ?_) AllReadyH.nil
        go_simp
        refine hKc.out _ _ ?_ (fun hHeld => ?_) <;> clear hKc Kc
        · (first | (with_reducible exact ⟨D0.cell ir0_11, D0.cell ir1_11, D0.cell ir2_11, D0.cell it0_11, D0.cell it1_11, D0.cell it2_11, D0.cell iu0_11, D0.cell iu1_11, D0.cell iu2_11⟩) | (with_reducible exact ⟨(((Ext.refl w11).alloc _).drew).cell ir0_11, (((Ext.refl w11).alloc _).drew).cell ir1_11, (((Ext.refl w11).alloc _).drew).cell ir2_11, (((Ext.refl w11).alloc _).drew).cell it0_11, (((Ext.refl w11).alloc _).drew).cell it1_11, (((Ext.refl w11).alloc _).drew).cell it2_11, (((Ext.refl w11).alloc _).drew).cell iu0_11, (((Ext.refl w11).alloc _).drew).cell iu1_11, (((Ext.refl w11).alloc _).drew).cell iu2_11⟩) | (with_reducible exact ⟨xc1_0, xc1_1, xc1_2, xc1_3, xc1_4, xc1_5, xc1_6, xc1_7, xc1_8⟩) | (with_reducible exact ⟨(Ec1.alloc _).cell ir0_11, (Ec1.alloc _).cell ir1_11, (Ec1.alloc _).cell ir2_11, (Ec1.alloc _).cell it0_11, (Ec1.alloc _).cell it1_11, (Ec1.alloc _).cell it2_11, (Ec1.alloc _).cell iu0_11, (Ec1.alloc _).cell iu1_11, (Ec1.alloc _).cell iu2_11⟩) | (with_reducible exact ⟨xc2_0, xc2_1, xc2_2, xc2_3, xc2_4, xc2_5, xc2_6, xc2_7, xc2_8⟩) | (with_reducible exact ⟨(Ec2.alloc _).cell ir0_11, (Ec2.alloc _).cell ir1_11, (Ec2.alloc _).cell ir2_11, (Ec2.alloc _).cell it0_11, (Ec2.alloc _).cell it1_11, (Ec2.alloc _).cell it2_11, (Ec2.alloc _).cell iu0_11, (Ec2.alloc _).cell iu1_11, (Ec2.alloc _).cell iu2_11⟩) | (with_reducible exact ⟨xc3_0, xc3_1, xc3_2, xc3_3, xc3_4, xc3_5, xc3_6, xc3_7, xc3_8⟩) | (with_reducible exact ⟨(Ec3.alloc _).cell ir0_11, (Ec3.alloc _).cell ir1_11, (Ec3.alloc _).cell ir2_11, (Ec3.alloc _).cell it0_11, (Ec3.alloc _).cell it1_11, (Ec3.alloc _).cell it2_11, (Ec3.alloc _).cell iu0_11, (Ec3.alloc _).cell iu1_11, (Ec3.alloc _).cell iu2_11⟩) | (with_reducible exact ⟨grown_cell (b := w11.heap.size) (grown_setCell (grown_setCell (grown_setCell (grown_refl _ _) _ _) _ _) _ _) hn0_0 xc3_0, grown_cell (b := w11.heap.size) (grown_setCell (grown_setCell (grown_setCell (grown_refl _ _) _ _) _ _) _ _) hn0_0 xc3_1, grown_cell (b := w11.heap.size) (grown_setCell (grown_setCell (grown_setCell (grown_refl _ _) _ _) _ _) _ _) hn0_0 xc3_2, grown_cell (b := w11.heap.size) (grown_setCell (grown_setCell (grown_setCell (grown_refl _ _) _ _) _ _) _ _) hn0_1 xc3_3, grown_cell (b := w11.heap.size) (grown_setCell (grown_setCell (grown_setCell (grown_refl _ _) _ _) _ _) _ _) hn0_1 xc3_4, grown_cell (b := w11.heap.size) (grown_setCell (grown_setCell (grown_setCell (grown_refl _ _) _ _) _ _) _ _) hn0_1 xc3_5, grown_cell (b := w11.heap.size) (grown_setCell (grown_setCell (grown_setCell (grown_refl _ _) _ _) _ _) _ _) hn0_2 xc3_6, grown_cell (b := w11.heap.size) (grown_setCell (grown_setCell (grown_setCell (grown_refl _ _) _ _) _ _) _ _) hn0_2 xc3_7, grown_cell (b := w11.heap.size) (grown_setCell (grown_setCell (grown_setCell (grown_refl _ _) _ _) _ _) _ _) hn0_2 xc3_8⟩) | (with_reducible exact ⟨grown_cell (b := wc1.heap.size) (grown_setCell (grown_setCell (grown_setCell (grown_refl _ _) _ _) _ _) _ _) hn1_0 xc3_0, grown_cell (b := wc1.heap.size) (grown_setCell (grown_setCell (grown_setCell (grown_refl _ _) _ _) _ _) _ _) hn1_0 xc3_1, grown_cell (b := wc1.heap.size) (grown_setCell (grown_setCell (grown_setCell (grown_refl _ _) _ _) _ _) _ _) hn1_0 xc3_2, grown_cell (b := wc1.heap.size) (grown_setCell (grown_setCell (grown_setCell (grown_refl _ _) _ _) _ _) _ _) hn1_1 xc3_3, grown_cell (b := wc1.heap.size) (grown_setCell (grown_setCell (grown_setCell (grown_refl _ _) _ _) _ _) _ _) hn1_1 xc3_4, grown_cell (b := wc1.heap.size) (grown_setCell (grown_setCell (grown_setCell (grown_refl _ _) _ _) _ _) _ _) hn1_1 xc3_5, grown_cell (b := wc1.heap.size) (grown_setCell (grown_setCell (grown_setCell (grown_refl _ _) _ _) _ _) _ _) hn1_2 xc3_6, grown_cell (b := wc1.heap.size) (grown_setCell (grown_setCell (grown_setCell (grown_refl _ _) _ _) _ _) _ _) hn1_2 xc3_7, grown_cell (b := wc1.heap.size) (grown_setCell (grown_setCell (grown_setCell (grown_refl _ _) _ _) _ _) _ _) hn1_2 xc3_8⟩) | (with_reducible exact ⟨grown_cell (b := wc2.heap.size) (grown_setCell (grown_setCell (grown_setCell (grown_refl _ _) _ _) _ _) _ _) hn2_0 xc3_0, grown_cell (b := wc2.heap.size) (grown_setCell (grown_setCell (grown_setCell (grown_refl _ _) _ _) _ _) _ _) hn2_0 xc3_1, grown_cell (b := wc2.heap.size) (grown_setCell (grown_setCell (grown_setCell (grown_refl _ _) _ _) _ _) _ _) hn2_0 xc3_2, grown_cell (b := wc2.heap.size) (grown_setCell (grown_setCell (grown_setCell (grown_refl _ _) _ _) _ _) _ _) hn2_1 xc3_3, grown_cell (b := wc2.heap.size) (grown_setCell (grown_setCell (grown_setCell (grown_refl _ _) _ _) _ _) _ _) hn2_1 xc3_4, grown_cell (b := wc2.heap.size) (grown_setCell (grown_setCell (grown_setCell (grown_refl _ _) _ _) _ _) _ _) hn2_1 xc3_5, grown_cell (b := wc2.heap.size) (grown_setCell (grown_setCell (grown_setCell (grown_refl _ _) _ _) _ _) _ _) hn2_2 xc3_6, grown_cell (b := wc2.heap.size) (grown_setCell (grown_setCell (grown_setCell (grown_refl _ _) _ _) _ _) _ _) hn2_2 xc3_7, grown_cell (b := wc2.heap.size) (grown_setCell (grown_setCell (grown_setCell (grown_refl _ _) _ _) _ _) _ _) hn2_2 xc3_8⟩))
        refine wpAnyH_ready (rs := [9]) (by kernel_rfl) (by simp) ?_
        refine AllReadyH.cons rfl (fun Kc hKc => ?_) AllReadyH.nil
        go_simp; go_at_call 30
        (with_reducible refine (addTensors_any HR.out TSt.out TSu.out HP.out _ _ (wc2.alloc (.cells #[.slice none 0 0, .slice none 0 0, .slice none 0 0] 31)) (os1.tens.ext (((Ext.refl wc1).trans hc2).alloc _)) (os2.tens.ext ((Ext.refl wc2).alloc _))).mono ?_); rintro ec3 wc3 ⟨v3, rfl, oc, hc3⟩; have Ec3 : Ext w11 wc3 := (Ec2.alloc _).trans hc3; have xc3_0 := Ec3.cell ir0_11; have xc3_1 := Ec3.cell ir1_11; have xc3_2 := Ec3.cell ir2_11; have xc3_3 := Ec3.cell it0_11; have xc3_4 := Ec3.cell it1_11; have xc3_5 := Ec3.cell it2_11; have xc3_6 := Ec3.cell iu0_11; have xc3_7 := Ec3.cell iu1_11; have xc3_8 := Ec3.cell iu2_11; have hEc3s := Ec3.size; obtain ⟨cp1, cn1, cc1, cp2, cn2, cc2, cp3, cn3, cc3, rfl⟩ := oc.shape; have o4m := oc.mono (B' := w11.heap.size) (by simp; omega); have hn3_0 : w1.heap.size ≠ wc3.heap.size := (by omega); have hn3_1 : w3.heap.size ≠ wc3.heap.size := (by omega); have hn3_2 : w5.heap.size ≠ wc3.heap.size := (by omega); have Y3 : Blk wc3 wc2.heap.size 31 [.slice none 0 0, .slice none 0 0, .slice none 0 0] := (Blk.new wc2 #[.slice none 0 0, .slice none 0 0, .slice none 0 0] 31).ext hc3; have fb_0 := Y3.free 0; have yb_0 := Y3.cell (j := 0) rfl; have fb_1 := Y3.free 1; have yb_1 := Y3.cell (j := 1) rfl; have fb_2 := Y3.free 2; have yb_2 := Y3.cell (j := 2) rfl; have ylb := Y3.lt
        (try go_simp)
        refine hKc.out _ _ ?_ (fun hHeld => ?_) <;> clear hKc Kc
        · (first | (with_reducible exact ⟨D0.cell ir0_11, D0.cell ir1_11, D0.cell ir2_11, D0.cell it0_11, D0.cell it1_11, D0.cell it2_11, D0.cell iu0_11, D0.cell iu1_11, D0.cell iu2_11⟩) | (with_reducible exact ⟨(((Ext.refl w11).alloc _).drew).cell ir0_11, (((Ext.refl w11).alloc _).drew).cell ir1_11, (((Ext.refl w11).alloc _).drew).cell ir2_11, (((Ext.refl w11).alloc _).drew).cell it0_11, (((Ext.refl w11).alloc _).drew).cell it1_11, (((Ext.refl w11).alloc _).drew).cell it2_11, (((Ext.refl w11).alloc _).drew).cell iu0_11, (((Ext.refl w11).alloc _).drew).cell iu1_11, (((Ext.refl w11).alloc _).drew).cell iu2_11⟩) | (with_reducible exact ⟨xc1_0, xc1_1, xc1_2, xc1_3, xc1_4, xc1_5, xc1_6, xc1_7, xc1_8⟩) | (with_reducible exact ⟨(Ec1.alloc _).cell ir0_11, (Ec1.alloc _).cell ir1_11, (Ec1.alloc _).cell ir2_11, (Ec1.alloc _).cell it0_11, (Ec1.alloc _).cell it1_11, (Ec1.alloc _).cell it2_11, (Ec1.alloc _).cell iu0_11, (Ec1.alloc _).cell iu1_11, (Ec1.alloc _).cell iu2_11⟩) | (with_reducible exact ⟨xc2_0, xc2_1, xc2_2, xc2_3, xc2_4, xc2_5, xc2_6, xc2_7, xc2_8⟩) | (with_reducible exact ⟨(Ec2.alloc _).cell ir0_11, (Ec2.alloc _).cell ir1_11, (Ec2.alloc _).cell ir2_11, (Ec2.alloc _).cell it0_11, (Ec2.alloc _).cell it1_11, (Ec2.alloc _).cell it2_11, (Ec2.alloc _).cell iu0_11, (Ec2.alloc _).cell iu1_11, (Ec2.alloc _).cell iu2_11⟩) | (with_reducible exact ⟨xc3_0, xc3_1, xc3_2, xc3_3, xc3_4, xc3_5, xc3_6, xc3_7, xc3_8⟩) | (with_reducible exact ⟨(Ec3.alloc _).cell ir0_11, (Ec3.alloc _).cell ir1_11, (Ec3.alloc _).cell ir2_11, (Ec3.alloc _).cell it0_11, (Ec3.alloc _).cell it1_11, (Ec3.alloc _).cell it2_11, (Ec3.alloc _).cell iu0_11, (Ec3.alloc _).cell iu1_11, (Ec3.alloc _).cell iu2_11⟩) | (with_reducible exact ⟨grown_cell (b := w11.heap.size) (grown_setCell (grown_setCell (grown_setCell (grown_refl _ _) _ _) _ _) _ _) hn0_0 xc3_0, grown_cell (b := w11.heap.size) (grown_setCell (grown_setCell (grown_setCell (grown_refl _ _) _ _) _ _) _ _) hn0_0 xc3_1, grown_cell (b := w11.heap.size) (grown_setCell (grown_setCell (grown_setCell (grown_refl _ _) _ _) _ _) _ _) hn0_0 xc3_2, grown_cell (b := w11.heap.size) (grown_setCell (grown_setCell (grown_setCell (grown_refl _ _) _ _) _ _) _ _) hn0_1 xc3_3, grown_cell (b := w11.heap.size) (grown_setCell (grown_setCell (grown_setCell (grown_refl _ _) _ _) _ _) _ _) hn0_1 xc3_4, grown_cell (b := w11.heap.size) (grown_setCell (grown_setCell (grown_setCell (grown_refl _ _) _ _) _ _) _ _) hn0_1 xc3_5, grown_cell (b := w11.heap.size) (grown_setCell (grown_setCell (grown_setCell (grown_refl _ _) _ _) _ _) _ _) hn0_2 xc3_6, grown_cell (b := w11.heap.size) (grown_setCell (grown_setCell (grown_setCell (grown_refl _ _) _ _) _ _) _ _) hn0_2 xc3_7, grown_cell (b := w11.heap.size) (grown_setCell (grown_setCell (grown_setCell (grown_refl _ _) _ _) _ _) _ _) hn0_2 xc3_8⟩) | (with_reducible exact ⟨grown_cell (b := wc1.heap.size) (grown_setCell (grown_setCell (grown_setCell (grown_refl _ _) _ _) _ _) _ _) hn1_0 xc3_0, grown_cell (b := wc1.heap.size) (grown_setCell (grown_setCell (grown_setCell (grown_refl _ _) _ _) _ _) _ _) hn1_0 xc3_1, grown_cell (b := wc1.heap.size) (grown_setCell (grown_setCell (grown_setCell (grown_refl _ _) _ _) _ _) _ _) hn1_0 xc3_2, grown_cell (b := wc1.heap.size) (grown_setCell (grown_setCell (grown_setCell (grown_refl _ _) _ _) _ _) _ _) hn1_1 xc3_3, grown_cell (b := wc1.heap.size) (grown_setCell (grown_setCell (grown_setCell (grown_refl _ _) _ _) _ _) _ _) hn1_1 xc3_4, grown_cell (b := wc1.heap.size) (grown_setCell (grown_setCell (grown_setCell (grown_refl _ _) _ _) _ _) _ _) hn1_1 xc3_5, grown_cell (b := wc1.heap.size) (grown_setCell (grown_setCell (grown_setCell (grown_refl _ _) _ _) _ _) _ _) hn1_2 xc3_6, grown_cell (b := wc1.heap.size) (grown_setCell (grown_setCell (grown_setCell (grown_refl _ _) _ _) _ _) _ _) hn1_2 xc3_7, grown_cell (b := wc1.heap.size) (grown_setCell (grown_setCell (grown_setCell (grown_refl _ _) _ _) _ _) _ _) hn1_2 xc3_8⟩) | (with_reducible exact ⟨grown_cell (b := wc2.heap.size) (grown_setCell (grown_setCell (grown_setCell (grown_refl _ _) _ _) _ _) _ _) hn2_0 xc3_0, grown_cell (b := wc2.heap.size) (grown_setCell (grown_setCell (grown_setCell (grown_refl _ _) _ _) _ _) _ _) hn2_0 xc3_1, grown_cell (b := wc2.heap.size) (grown_setCell (grown_setCell (grown_setCell (grown_refl _ _) _ _) _ _) _ _) hn2_0 xc3_2, grown_cell (b := wc2.heap.size) (grown_setCell (grown_setCell (grown_setCell (grown_refl _ _) _ _) _ _) _ _) hn2_1 xc3_3, grown_cell (b := wc2.heap.size) (grown_setCell (grown_setCell (grown_setCell (grown_refl _ _) _ _) _ _) _ _) hn2_1 xc3_4, grown_cell (b := wc2.heap.size) (grown_setCell (grown_setCell (grown_setCell (grown_refl _ _) _ _) _ _) _ _) hn2_1 xc3_5, grown_cell (b := wc2.heap.size) (grown_setCell (grown_setCell (grown_setCell (grown_refl _ _) _ _) _ _) _ _) hn2_2 xc3_6, grown_cell (b := wc2.heap.size) (grown_setCell (grown_setCell (grown_setCell (grown_refl _ _) _ _) _ _) _ _) hn2_2 xc3_7, grown_cell (b := wc2.heap.size) (grown_setCell (grown_setCell (grown_setCell (grown_refl _ _) _ _) _ _) _ _) hn2_2 xc3_8⟩))
        refine wpAnyH_take (i := 10) (v := ?_) rfl (by kernel_rfl) (by kernel_rfl) (by kernel_rfl) (fun _ _ _ h => h) (Or.inl ⟨by rfl, ?_⟩) (by assumption) ?_
        rotate_left
        · intro w hSw; (try dsimp only at hSw); go_simp; (try with_reducible rfl)
        (try go_simp)
        refine wpAnyH_take (i := 11) (v := ?_) rfl (by kernel_rfl) (by kernel_rfl) (by kernel_rfl) (fun _ _ _ h => h) (Or.inl ⟨by rfl, ?_⟩) (by assumption) ?_
        rotate_left
        · intro w hSw; (try dsimp only at hSw); go_simp; (try with_reducible rfl)
        (try go_simp)
        refine wpAnyH_take (i := 12) (v := ?_) rfl (by kernel_rfl) (by kernel_rfl) (by kernel_rfl) (fun _ _ _ h => h) (Or.inl ⟨by rfl, ?_⟩) (by assumption) ?_
        rotate_left
        · intro w hSw; (try dsimp only at hSw); go_simp; (try with_reducible rfl)
        (try go_simp)
        refine wpAnyH_ready (rs := [14]) (by kernel_rfl) (by simp) ?_
        refine AllReadyH.cons rfl (fun Kc hKc => ?_) AllReadyH.nil
        go_simp
        refine hKc.out _ _ ?_ (fun hHeld => ?_) <;> clear hKc Kc
        · (first | (with_reducible exact ⟨D0.cell ir0_11, D0.cell ir1_11, D0.cell ir2_11, D0.cell it0_11, D0.cell it1_11, D0.cell it2_11, D0.cell iu0_11, D0.cell iu1_11, D0.cell iu2_11⟩) | (with_reducible exact ⟨(((Ext.refl w11).alloc _).drew).cell ir0_11, (((Ext.refl w11).alloc _).drew).cell ir1_11, (((Ext.refl w11).alloc _).drew).cell ir2_11, (((Ext.refl w11).alloc _).drew).cell it0_11, (((Ext.refl w11).alloc _).drew).cell it1_11, (((Ext.refl w11).alloc _).drew).cell it2_11, (((Ext.refl w11).alloc _).drew).cell iu0_11, (((Ext.refl w11).alloc _).drew).cell iu1_11, (((Ext.refl w11).alloc _).drew).cell iu2_11⟩) | (with_reducible exact ⟨xc1_0, xc1_1, xc1_2, xc1_3, xc1_4, xc1_5, xc1_6, xc1_7, xc1_8⟩) | (with_reducible exact ⟨(Ec1.alloc _).cell ir0_11, (Ec1.alloc _).cell ir1_11, (Ec1.alloc _).cell ir2_11, (Ec1.alloc _).cell it0_11, (Ec1.alloc _).cell it1_11, (Ec1.alloc _).cell it2_11, (Ec1.alloc _).cell iu0_11, (Ec1.alloc _).cell iu1_11, (Ec1.alloc _).cell iu2_11⟩) | (with_reducible exact ⟨xc2_0, xc2_1, xc2_2, xc2_3, xc2_4, xc2_5, xc2_6, xc2_7, xc2_8⟩) | (with_reducible exact ⟨(Ec2.alloc _).cell ir0_11, (Ec2.alloc _).cell ir1_11, (Ec2.alloc _).cell ir2_11, (Ec2.alloc _).cell it0_11, (Ec2.alloc _).cell it1_11, (Ec2.alloc _).cell it2_11, (Ec2.alloc _).cell iu0_11, (Ec2.alloc _).cell iu1_11, (Ec2.alloc _).cell iu2_11⟩) | (with_reducible exact ⟨xc3_0, xc3_1, xc3_2, xc3_3, xc3_4, xc3_5, xc3_6, xc3_7, xc3_8⟩) | (with_reducible exact ⟨(Ec3.alloc _).cell ir0_11, (Ec3.alloc _).cell ir1_11, (Ec3.alloc _).cell ir2_11, (Ec3.alloc _).cell it0_11, (Ec3.alloc _).cell it1_11, (Ec3.alloc _).cell it2_11, (Ec3.alloc _).cell iu0_11, (Ec3.alloc _).cell iu1_11, (Ec3.alloc _).cell iu2_11⟩) | (with_reducible exact ⟨grown_cell (b := w11.heap.size) (grown_setCell (grown_setCell (grown_setCell (grown_refl _ _) _ _) _ _) _ _) hn0_0 xc3_0, grown_cell (b := w11.heap.size) (grown_setCell (grown_setCell (grown_setCell (grown_refl _ _) _ _) _ _) _ _) hn0_0 xc3_1, grown_cell (b := w11.heap.size) (grown_setCell (grown_setCell (grown_setCell (grown_refl _ _) _ _) _ _) _ _) hn0_0 xc3_2, grown_cell (b := w11.heap.size) (grown_setCell (grown_setCell (grown_setCell (grown_refl _ _) _ _) _ _) _ _) hn0_1 xc3_3, grown_cell (b := w11.heap.size) (grown_setCell (grown_setCell (grown_setCell (grown_refl _ _) _ _) _ _) _ _) hn0_1 xc3_4, grown_cell (b := w11.heap.size) (grown_setCell (grown_setCell (grown_setCell (grown_refl _ _) _ _) _ _) _ _) hn0_1 xc3_5, grown_cell (b := w11.heap.size) (grown_setCell (grown_setCell (grown_setCell (grown_refl _ _) _ _) _ _) _ _) hn0_2 xc3_6, grown_cell (b := w11.heap.size) (grown_setCell (grown_setCell (grown_setCell (grown_refl _ _) _ _) _ _) _ _) hn0_2 xc3_7, grown_cell (b := w11.heap.size) (grown_setCell (grown_setCell (grown_setCell (grown_refl _ _) _ _) _ _) _ _) hn0_2 xc3_8⟩) | (with_reducible exact ⟨grown_cell (b := wc1.heap.size) (grown_setCell (grown_setCell (grown_setCell (grown_refl _ _) _ _) _ _) _ _) hn1_0 xc3_0, grown_cell (b := wc1.heap.size) (grown_setCell (grown_setCell (grown_setCell (grown_refl _ _) _ _) _ _) _ _) hn1_0 xc3_1, grown_cell (b := wc1.heap.size) (grown_setCell (grown_setCell (grown_setCell (grown_refl _ _) _ _) _ _) _ _) hn1_0 xc3_2, grown_cell (b := wc1.heap.size) (grown_setCell (grown_setCell (grown_setCell (grown_refl _ _) _ _) _ _) _ _) hn1_1 xc3_3, grown_cell (b := wc1.heap.size) (grown_setCell (grown_setCell (grown_setCell (grown_refl _ _) _ _) _ _) _ _) hn1_1 xc3_4, grown_cell (b := wc1.heap.size) (grown_setCell (grown_setCell (grown_setCell (grown_refl _ _) _ _) _ _) _ _) hn1_1 xc3_5, grown_cell (b := wc1.heap.size) (grown_setCell (grown_setCell (grown_setCell (grown_refl _ _) _ _) _ _) _ _) hn1_2 xc3_6, grown_cell (b := wc1.heap.size) (grown_setCell (grown_setCell (grown_setCell (grown_refl _ _) _ _) _ _) _ _) hn1_2 xc3_7, grown_cell (b := wc1.heap.size) (grown_setCell (grown_setCell (grown_setCell (grown_refl _ _) _ _) _ _) _ _) hn1_2 xc3_8⟩) | (with_reducible exact ⟨grown_cell (b := wc2.heap.size) (grown_setCell (grown_setCell (grown_setCell (grown_refl _ _) _ _) _ _) _ _) hn2_0 xc3_0, grown_cell (b := wc2.heap.size) (grown_setCell (grown_setCell (grown_setCell (grown_refl _ _) _ _) _ _) _ _) hn2_0 xc3_1, grown_cell (b := wc2.heap.size) (grown_setCell (grown_setCell (grown_setCell (grown_refl _ _) _ _) _ _) _ _) hn2_0 xc3_2, grown_cell (b := wc2.heap.size) (grown_setCell (grown_setCell (grown_setCell (grown_refl _ _) _ _) _ _) _ _) hn2_1 xc3_3, grown_cell (b := wc2.heap.size) (grown_setCell (grown_setCell (grown_setCell (grown_refl _ _) _ _) _ _) _ _) hn2_1 xc3_4, grown_cell (b := wc2.heap.size) (grown_setCell (grown_setCell (grown_setCell (grown_refl _ _) _ _) _ _) _ _) hn2_1 xc3_5, grown_cell (b := wc2.heap.size) (grown_setCell (grown_setCell (grown_setCell (grown_refl _ _) _ _) _ _) _ _) hn2_2 xc3_6, grown_cell (b := wc2.heap.size) (grown_setCell (grown_setCell (grown_setCell (grown_refl _ _) _ _) _ _) _ _) hn2_2 xc3_7, grown_cell (b := wc2.heap.size) (grown_setCell (grown_setCell (grown_setCell (grown_refl _ _) _ _) _ _) _ _) hn2_2 xc3_8⟩))
        refine wpAnyH_ready (rs := [15]) (by kernel_rfl) (by simp) ?_
        refine AllReadyH.cons rfl (fun Kc hKc => ?_) AllReadyH.nil
        go_simp
        refine hKc.out _ _ ?_ (fun hHeld => ?_) <;> clear hKc Kc
        · (first | (with_reducible exact ⟨D0.cell ir0_11, D0.cell ir1_11, D0.cell ir2_11, D0.cell it0_11, D0.cell it1_11, D0.cell it2_11, D0.cell iu0_11, D0.cell iu1_11, D0.cell iu2_11⟩) | (with_reducible exact ⟨(((Ext.refl w11).alloc _).drew).cell ir0_11, (((Ext.refl w11).alloc _).drew).cell ir1_11, (((Ext.refl w11).alloc _).drew).cell ir2_11, (((Ext.refl w11).alloc _).drew).cell it0_11, (((Ext.refl w11).alloc _).drew).cell it1_11, (((Ext.refl w11).alloc _).drew).cell it2_11, (((Ext.refl w11).alloc _).drew).cell iu0_11, (((Ext.refl w11).alloc _).drew).cell iu1_11, (((Ext.refl w11).alloc _).drew).cell iu2_11⟩) | (with_reducible exact ⟨xc1_0, xc1_1, xc1_2, xc1_3, xc1_4, xc1_5, xc1_6, xc1_7, xc1_8⟩) | (with_reducible exact ⟨(Ec1.alloc _).cell ir0_11, (Ec1.alloc _).cell ir1_11, (Ec1.alloc _).cell ir2_11, (Ec1.alloc _).cell it0_11, (Ec1.alloc _).cell it1_11, (Ec1.alloc _).cell it2_11, (Ec1.alloc _).cell iu0_11, (Ec1.alloc _).cell iu1_11, (Ec1.alloc _).cell iu2_11⟩) | (with_reducible exact ⟨xc2_0, xc2_1, xc2_2, xc2_3, xc2_4, xc2_5, xc2_6, xc2_7, xc2_8⟩) | (with_reducible exact ⟨(Ec2.alloc _).cell ir0_11, (Ec2.alloc _).cell ir1_11, (Ec2.alloc _).cell ir2_11, (Ec2.alloc _).cell it0_11, (Ec2.alloc _).cell it1_11, (Ec2.alloc _).cell it2_11, (Ec2.alloc _).cell iu0_11, (Ec2.alloc _).cell iu1_11, (Ec2.alloc _).cell iu2_11⟩) | (with_reducible exact ⟨xc3_0, xc3_1, xc3_2, xc3_3, xc3_4, xc3_5, xc3_6, xc3_7, xc3_8⟩) | (with_reducible exact ⟨(Ec3.alloc _).cell ir0_11, (Ec3.alloc _).cell ir1_11, (Ec3.alloc _).cell ir2_11, (Ec3.alloc _).cell it0_11, (Ec3.alloc _).cell it1_11, (Ec3.alloc _).cell it2_11, (Ec3.alloc _).cell iu0_11, (Ec3.alloc _).cell iu1_11, (Ec3.alloc _).cell iu2_11⟩) | (with_reducible exact ⟨grown_cell (b := w11.heap.size) (grown_setCell (grown_setCell (grown_setCell (grown_refl _ _) _ _) _ _) _ _) hn0_0 xc3_0, grown_cell (b := w11.heap.size) (grown_setCell (grown_setCell (grown_setCell (grown_refl _ _) _ _) _ _) _ _) hn0_0 xc3_1, grown_cell (b := w11.heap.size) (grown_setCell (grown_setCell (grown_setCell (grown_refl _ _) _ _) _ _) _ _) hn0_0 xc3_2, grown_cell (b := w11.heap.size) (grown_setCell (grown_setCell (grown_setCell (grown_refl _ _) _ _) _ _) _ _) hn0_1 xc3_3, grown_cell (b := w11.heap.size) (grown_setCell (grown_setCell (grown_setCell (grown_refl _ _) _ _) _ _) _ _) hn0_1 xc3_4, grown_cell (b := w11.heap.size) (grown_setCell (grown_setCell (grown_setCell (grown_refl _ _) _ _) _ _) _ _) hn0_1 xc3_5, grown_cell (b := w11.heap.size) (grown_setCell (grown_setCell (grown_setCell (grown_refl _ _) _ _) _ _) _ _) hn0_2 xc3_6, grown_cell (b := w11.heap.size) (grown_setCell (grown_setCell (grown_setCell (grown_refl _ _) _ _) _ _) _ _) hn0_2 xc3_7, grown_cell (b := w11.heap.size) (grown_setCell (grown_setCell (grown_setCell (grown_refl _ _) _ _) _ _) _ _) hn0_2 xc3_8⟩) | (with_reducible exact ⟨grown_cell (b := wc1.heap.size) (grown_setCell (grown_setCell (grown_setCell (grown_refl _ _) _ _) _ _) _ _) hn1_0 xc3_0, grown_cell (b := wc1.heap.size) (grown_setCell (grown_setCell (grown_setCell (grown_refl _ _) _ _) _ _) _ _) hn1_0 xc3_1, grown_cell (b := wc1.heap.size) (grown_setCell (grown_setCell (grown_setCell (grown_refl _ _) _ _) _ _) _ _) hn1_0 xc3_2, grown_cell (b := wc1.heap.size) (grown_setCell (grown_setCell (grown_setCell (grown_refl _ _) _ _) _ _) _ _) hn1_1 xc3_3, grown_cell (b := wc1.heap.size) (grown_setCell (grown_setCell (grown_setCell (grown_refl _ _) _ _) _ _) _ _) hn1_1 xc3_4, grown_cell (b := wc1.heap.size) (grown_setCell (grown_setCell (grown_setCell (grown_refl _ _) _ _) _ _) _ _) hn1_1 xc3_5, grown_cell (b := wc1.heap.size) (grown_setCell (grown_setCell (grown_setCell (grown_refl _ _) _ _) _ _) _ _) hn1_2 xc3_6, grown_cell (b := wc1.heap.size) (grown_setCell (grown_setCell (grown_setCell (grown_refl _ _) _ _) _ _) _ _) hn1_2 xc3_7, grown_cell (b := wc1.heap.size) (grown_setCell (grown_setCell (grown_setCell (grown_refl _ _) _ _) _ _) _ _) hn1_2 xc3_8⟩) | (with_reducible exact ⟨grown_cell (b := wc2.heap.size) (grown_setCell (grown_setCell (grown_setCell (grown_refl _ _) _ _) _ _) _ _) hn2_0 xc3_0, grown_cell (b := wc2.heap.size) (grown_setCell (grown_setCell (grown_setCell (grown_refl _ _) _ _) _ _) _ _) hn2_0 xc3_1, grown_cell (b := wc2.heap.size) (grown_setCell (grown_setCell (grown_setCell (grown_refl _ _) _ _) _ _) _ _) hn2_0 xc3_2, grown_cell (b := wc2.heap.size) (grown_setCell (grown_setCell (grown_setCell (grown_refl _ _) _ _) _ _) _ _) hn2_1 xc3_3, grown_cell (b := wc2.heap.size) (grown_setCell (grown_setCell (grown_setCell (grown_refl _ _) _ _) _ _) _ _) hn2_1 xc3_4, grown_cell (b := wc2.heap.size) (grown_setCell (grown_setCell (grown_setCell (grown_refl _ _) _ _) _ _) _ _) hn2_1 xc3_5, grown_cell (b := wc2.heap.size) (grown_setCell (grown_setCell (grown_setCell (grown_refl _ _) _ _) _ _) _ _) hn2_2 xc3_6, grown_cell (b := wc2.heap.size) (grown_setCell (grown_setCell (grown_setCell (grown_refl _ _) _ _) _ _) _ _) hn2_2 xc3_7, grown_cell (b := wc2.heap.size) (grown_setCell (grown_setCell (grown_setCell (grown_refl _ _) _ _) _ _) _ _) hn2_2 xc3_8⟩))
        refine wpAnyH_done (by kernel_rfl) ?_ _
        go_wp2_with fail
        go_meet
        exact ⟨wc2.heap.size, cp1, cn1, cc1, cp2, cn2, cc2, cp3, cn3, cc3, rfl, rfl, ((Y3.set 0 (.slice cp1 cn1 cc1)).set 1 (.slice cp2 cn2 cc2)).set 2 (.slice cp3 cn3 cc3), ((Ec3.setAt hEc2s _ _).setAt hEc2s _ _).setAt hEc2s _ _, (((oc.setBelow (p := ⟨wc2.heap.size, 0, none⟩) (by simp) _).setBelow (p := ⟨wc2.heap.size, 1, none⟩) (by simp) _).setBelow (p := ⟨wc2.heap.size, 2, none⟩) (by simp) _).mono (by simp; omega)⟩
      refine AllReadyH.cons rfl (fun Kc hKc => ?_) AllReadyH.nil
      go_simp
      refine hKc.out _ _ ?_ (fun hHeld => ?_) <;> clear hKc Kc
      · (first | (with_reducible exact ⟨D0.cell ir0_11, D0.cell ir1_11, D0.cell ir2_11, D0.cell it0_11, D0.cell it1_11, D0.cell it2_11, D0.cell iu0_11, D0.cell iu1_11, D0.cell iu2_11⟩) | (with_reducible exact ⟨(((Ext.refl w11).alloc _).drew).cell ir0_11, (((Ext.refl w11).alloc _).drew).cell ir1_11, (((Ext.refl w11).alloc _).drew).cell ir2_11, (((Ext.refl w11).alloc _).drew).cell it0_11, (((Ext.refl w11).alloc _).drew).cell it1_11, (((Ext.refl w11).alloc _).drew).cell it2_11, (((Ext.refl w11).alloc _).drew).cell iu0_11, (((Ext.refl w11).alloc _).drew).cell iu1_11, (((Ext.refl w11).alloc _).drew).cell iu2_11⟩) | (with_reducible exact ⟨xc1_0, xc1_1, xc1_2, xc1_3, xc1_4, xc1_5, xc1_6, xc1_7, xc1_8⟩) | (with_reducible exact ⟨(Ec1.alloc _).cell ir0_11, (Ec1.alloc _).cell ir1_11, (Ec1.alloc _).cell ir2_11, (Ec1.alloc _).cell it0_11, (Ec1.alloc _).cell it1_11, (Ec1.alloc _).cell it2_11, (Ec1.alloc _).cell iu0_11, (Ec1.alloc _).cell iu1_11, (Ec1.alloc _).cell iu2_11⟩) | (with_reducible exact ⟨xc2_0, xc2_1, xc2_2, xc2_3, xc2_4, xc2_5, xc2_6, xc2_7, xc2_8⟩) | (with_reducible exact ⟨(Ec2.alloc _).cell ir0_11, (Ec2.alloc _).cell ir1_11, (Ec2.alloc _).cell ir2_11, (Ec2.alloc _).cell it0_11, (Ec2.alloc _).cell it1_11, (Ec2.alloc _).cell it2_11, (Ec2.alloc _).cell iu0_11, (Ec2.alloc _).cell iu1_11, (Ec2.alloc _).cell iu2_11⟩) | (with_reducible exact ⟨xc3_0, xc3_1, xc3_2, xc3_3, xc3_4, xc3_5, xc3_6, xc3_7, xc3_8⟩) | (with_reducible exact ⟨(Ec3.alloc _).cell ir0_11, (Ec3.alloc _).cell ir1_11, (Ec3.alloc _).cell ir2_11, (Ec3.alloc _).cell it0_11, (Ec3.alloc _).cell it1_11, (Ec3.alloc _).cell it2_11, (Ec3.alloc _).cell iu0_11, (Ec3.alloc _).cell iu1_11, (Ec3.alloc _).cell iu2_11⟩) | (with_reducible exact ⟨grown_cell (b := w11.heap.size) (grown_setCell (grown_setCell (grown_setCell (grown_refl _ _) _ _) _ _) _ _) hn0_0 xc3_0, grown_cell (b := w11.heap.size) (grown_setCell (grown_setCell (grown_setCell (grown_refl _ _) _ _) _ _) _ _) hn0_0 xc3_1, grown_cell (b := w11.heap.size) (grown_setCell (grown_setCell (grown_setCell (grown_refl _ _) _ _) _ _) _ _) hn0_0 xc3_2, grown_cell (b := w11.heap.size) (grown_setCell (grown_setCell (grown_setCell (grown_refl _ _) _ _) _ _) _ _) hn0_1 xc3_3, grown_cell (b := w11.heap.size) (grown_setCell (grown_setCell (grown_setCell (grown_refl _ _) _ _) _ _) _ _) hn0_1 xc3_4, grown_cell (b := w11.heap.size) (grown_setCell (grown_setCell (grown_setCell (grown_refl _ _) _ _) _ _) _ _) hn0_1 xc3_5, grown_cell (b := w11.heap.size) (grown_setCell (grown_setCell (grown_setCell (grown_refl _ _) _ _) _ _) _ _) hn0_2 xc3_6, grown_cell (b := w11.heap.size) (grown_setCell (grown_setCell (grown_setCell (grown_refl _ _) _ _) _ _) _ _) hn0_2 xc3_7, grown_cell (b := w11.heap.size) (grown_setCell (grown_setCell (grown_setCell (grown_refl _ _) _ _) _ _) _ _) hn0_2 xc3_8⟩) | (with_reducible exact ⟨grown_cell (b := wc1.heap.size) (grown_setCell (grown_setCell (grown_setCell (grown_refl _ _) _ _) _ _) _ _) hn1_0 xc3_0, grown_cell (b := wc1.heap.size) (grown_setCell (grown_setCell (grown_setCell (grown_refl _ _) _ _) _ _) _ _) hn1_0 xc3_1, grown_cell (b := wc1.heap.size) (grown_setCell (grown_setCell (grown_setCell (grown_refl _ _) _ _) _ _) _ _) hn1_0 xc3_2, grown_cell (b := wc1.heap.size) (grown_setCell (grown_setCell (grown_setCell (grown_refl _ _) _ _) _ _) _ _) hn1_1 xc3_3, grown_cell (b := wc1.heap.size) (grown_setCell (grown_setCell (grown_setCell (grown_refl _ _) _ _) _ _) _ _) hn1_1 xc3_4, grown_cell (b := wc1.heap.size) (grown_setCell (grown_setCell (grown_setCell (grown_refl _ _) _ _) _ _) _ _) hn1_1 xc3_5, grown_cell (b := wc1.heap.size) (grown_setCell (grown_setCell (grown_setCell (grown_refl _ _) _ _) _ _) _ _) hn1_2 xc3_6, grown_cell (b := wc1.heap.size) (grown_setCell (grown_setCell (grown_setCell (grown_refl _ _) _ _) _ _) _ _) hn1_2 xc3_7, grown_cell (b := wc1.heap.size) (grown_setCell (grown_setCell (grown_setCell (grown_refl _ _) _ _) _ _) _ _) hn1_2 xc3_8⟩) | (with_reducible exact ⟨grown_cell (b := wc2.heap.size) (grown_setCell (grown_setCell (grown_setCell (grown_refl _ _) _ _) _ _) _ _) hn2_0 xc3_0, grown_cell (b := wc2.heap.size) (grown_setCell (grown_setCell (grown_setCell (grown_refl _ _) _ _) _ _) _ _) hn2_0 xc3_1, grown_cell (b := wc2.heap.size) (grown_setCell (grown_setCell (grown_setCell (grown_refl _ _) _ _) _ _) _ _) hn2_0 xc3_2, grown_cell (b := wc2.heap.size) (grown_setCell (grown_setCell (grown_setCell (grown_refl _ _) _ _) _ _) _ _) hn2_1 xc3_3, grown_cell (b := wc2.heap.size) (grown_setCell (grown_setCell (grown_setCell (grown_refl _ _) _ _) _ _) _ _) hn2_1 xc3_4, grown_cell (b := wc2.heap.size) (grown_setCell (grown_setCell (grown_setCell (grown_refl _ _) _ _) _ _) _ _) hn2_1 xc3_5, grown_cell (b := wc2.heap.size) (grown_setCell (grown_setCell (grown_setCell (grown_refl _ _) _ _) _ _) _ _) hn2_2 xc3_6, grown_cell (b := wc2.heap.size) (grown_setCell (grown_setCell (grown_setCell (grown_refl _ _) _ _) _ _) _ _) hn2_2 xc3_7, grown_cell (b := wc2.heap.size) (grown_setCell (grown_setCell (grown_setCell (grown_refl _ _) _ _) _ _) _ _) hn2_2 xc3_8⟩))
      refine wpAnyH_ready (rs := [8]) (by kernel_rfl) (by simp) ?_
      refine AllReadyH.cons rfl (fun Kc hKc => ?_) AllReadyH.nil
      go_simp; go_at_call 31
      (with_reducible refine (scaleTensor_any HR.out Tu.out xe _ _ (wc1.alloc (.cells #[.slice none 0 0, .slice none 0 0, .slice none 0 0] 31)) ((ou.tens.ext (h6.trans (h7.trans (h8.trans (h9.trans (h10.trans h11)))))).ext (Ec1.alloc _)) ((ox.ints.ext (h8.trans (h9.trans (h10.trans h11)))).ext (Ec1.alloc _))).mono ?_); rintro ec2 wc2 ⟨v2, rfl, os2, hc2⟩; have Ec2 : Ext w11 wc2 := (Ec1.alloc _).trans hc2; have xc2_0 := Ec2.cell ir0_11; have xc2_1 := Ec2.cell ir1_11; have xc2_2 := Ec2.cell ir2_11; have xc2_3 := Ec2.cell it0_11; have xc2_4 := Ec2.cell it1_11; have xc2_5 := Ec2.cell it2_11; have xc2_6 := Ec2.cell iu0_11; have xc2_7 := Ec2.cell iu1_11; have xc2_8 := Ec2.cell iu2_11; have hEc2s := Ec2.size; obtain ⟨s2p1, s2n1, s2c1, s2p2, s2n2, s2c2, s2p3, s2n3, s2c3, rfl⟩ := os2.shape; have hn2_0 : w1.heap.size ≠ wc2.heap.size := (by omega); have hn2_1 : w3.heap.size ≠ wc2.heap.size := (by omega); have hn2_2 : w5.heap.size ≠ wc2.heap.size := (by omega); have Y2 : Blk wc2 wc1.heap.size 31 [.slice none 0 0, .slice none 0 0, .slice none 0 0] := (Blk.new wc1 #[.slice none 0 0, .slice none 0 0, .slice none 0 0] 31).ext hc2; have ltY2 := Y2.lt
      (try go_simp)
      refine hKc.out _ _ ?_ (fun hHeld => ?_) <;> clear hKc Kc
      · (first | (with_reducible exact ⟨D0.cell ir0_11, D0.cell ir1_11, D0.cell ir2_11, D0.cell it0_11, D0.cell it1_11, D0.cell it2_11, D0.cell iu0_11, D0.cell iu1_11, D0.cell iu2_11⟩) | (with_reducible exact ⟨(((Ext.refl w11).alloc _).drew).cell ir0_11, (((Ext.refl w11).alloc _).drew).cell ir1_11, (((Ext.refl w11).alloc _).drew).cell ir2_11, (((Ext.refl w11).alloc _).drew).cell it0_11, (((Ext.refl w11).alloc _).drew).cell it1_11, (((Ext.refl w11).alloc _).drew).cell it2_11, (((Ext.refl w11).alloc _).drew).cell iu0_11, (((Ext.refl w11).alloc _).drew).cell iu1_11, (((Ext.refl w11).alloc _).drew).cell iu2_11⟩) | (with_reducible exact ⟨xc1_0, xc1_1, xc1_2, xc1_3, xc1_4, xc1_5, xc1_6, xc1_7, xc1_8⟩) | (with_reducible exact ⟨(Ec1.alloc _).cell ir0_11, (Ec1.alloc _).cell ir1_11, (Ec1.alloc _).cell ir2_11, (Ec1.alloc _).cell it0_11, (Ec1.alloc _).cell it1_11, (Ec1.alloc _).cell it2_11, (Ec1.alloc _).cell iu0_11, (Ec1.alloc _).cell iu1_11, (Ec1.alloc _).cell iu2_11⟩) | (with_reducible exact ⟨xc2_0, xc2_1, xc2_2, xc2_3, xc2_4, xc2_5, xc2_6, xc2_7, xc2_8⟩) | (with_reducible exact ⟨(Ec2.alloc _).cell ir0_11, (Ec2.alloc _).cell ir1_11, (Ec2.alloc _).cell ir2_11, (Ec2.alloc _).cell it0_11, (Ec2.alloc _).cell it1_11, (Ec2.alloc _).cell it2_11, (Ec2.alloc _).cell iu0_11, (Ec2.alloc _).cell iu1_11, (Ec2.alloc _).cell iu2_11⟩) | (with_reducible exact ⟨xc3_0, xc3_1, xc3_2, xc3_3, xc3_4, xc3_5, xc3_6, xc3_7, xc3_8⟩) | (with_reducible exact ⟨(Ec3.alloc _).cell ir0_11, (Ec3.alloc _).cell ir1_11, (Ec3.alloc _).cell ir2_11, (Ec3.alloc _).cell it0_11, (Ec3.alloc _).cell it1_11, (Ec3.alloc _).cell it2_11, (Ec3.alloc _).cell iu0_11, (Ec3.alloc _).cell iu1_11, (Ec3.alloc _).cell iu2_11⟩) | (with_reducible exact ⟨grown_cell (b := w11.heap.size) (grown_setCell (grown_setCell (grown_setCell (grown_refl _ _) _ _) _ _) _ _) hn0_0 xc3_0, grown_cell (b := w11.heap.size) (grown_setCell (grown_setCell (grown_setCell (grown_refl _ _) _ _) _ _) _ _) hn0_0 xc3_1, grown_cell (b := w11.heap.size) (grown_setCell (grown_setCell (grown_setCell (grown_refl _ _) _ _) _ _) _ _) hn0_0 xc3_2, grown_cell (b := w11.heap.size) (grown_setCell (grown_setCell (grown_setCell (grown_refl _ _) _ _) _ _) _ _) hn0_1 xc3_3, grown_cell (b := w11.heap.size) (grown_setCell (grown_setCell (grown_setCell (grown_refl _ _) _ _) _ _) _ _) hn0_1 xc3_4, grown_cell (b := w11.heap.size) (grown_setCell (grown_setCell (grown_setCell (grown_refl _ _) _ _) _ _) _ _) hn0_1 xc3_5, grown_cell (b := w11.heap.size) (grown_setCell (grown_setCell (grown_setCell (grown_refl _ _) _ _) _ _) _ _) hn0_2 xc3_6, grown_cell (b := w11.heap.size) (grown_setCell (grown_setCell (grown_setCell (grown_refl _ _) _ _) _ _) _ _) hn0_2 xc3_7, grown_cell (b := w11.heap.size) (grown_setCell (grown_setCell (grown_setCell (grown_refl _ _) _ _) _ _) _ _) hn0_2 xc3_8⟩) | (with_reducible exact ⟨grown_cell (b := wc1.heap.size) (grown_setCell (grown_setCell (grown_setCell (grown_refl _ _) _ _) _ _) _ _) hn1_0 xc3_0, grown_cell (b := wc1.heap.size) (grown_setCell (grown_setCell (grown_setCell (grown_refl _ _) _ _) _ _) _ _) hn1_0 xc3_1, grown_cell (b := wc1.heap.size) (grown_setCell (grown_setCell (grown_setCell (grown_refl _ _) _ _) _ _) _ _) hn1_0 xc3_2, grown_cell (b := wc1.heap.size) (grown_setCell (grown_setCell (grown_setCell (grown_refl _ _) _ _) _ _) _ _) hn1_1 xc3_3, grown_cell (b := wc1.heap.size) (grown_setCell (grown_setCell (grown_setCell (grown_refl _ _) _ _) _ _) _ _) hn1_1 xc3_4, grown_cell (b := wc1.heap.size) (grown_setCell (grown_setCell (grown_setCell (grown_refl _ _) _ _) _ _) _ _) hn1_1 xc3_5, grown_cell (b := wc1.heap.size) (grown_setCell (grown_setCell (grown_setCell (grown_refl _ _) _ _) _ _) _ _) hn1_2 xc3_6, grown_cell (b := wc1.heap.size) (grown_setCell (grown_setCell (grown_setCell (grown_refl _ _) _ _) _ _) _ _) hn1_2 xc3_7, grown_cell (b := wc1.heap.size) (grown_setCell (grown_setCell (grown_setCell (grown_refl _ _) _ _) _ _) _ _) hn1_2 xc3_8⟩) | (with_reducible exact ⟨grown_cell (b := wc2.heap.size) (grown_setCell (grown_setCell (grown_setCell (grown_refl _ _) _ _) _ _) _ _) hn2_0 xc3_0, grown_cell (b := wc2.heap.size) (grown_setCell (grown_setCell (grown_setCell (grown_refl _ _) _ _) _ _) _ _) hn2_0 xc3_1, grown_cell (b := wc2.heap.size) (grown_setCell (grown_setCell (grown_setCell (grown_refl _ _) _ _) _ _) _ _) hn2_0 xc3_2, grown_cell (b := wc2.heap.size) (grown_setCell (grown_setCell (grown_setCell (grown_refl _ _) _ _) _ _) _ _) hn2_1 xc3_3, grown_cell (b := wc2.heap.size) (grown_setCell (grown_setCell (grown_setCell (grown_refl _ _) _ _) _ _) _ _) hn2_1 xc3_4, grown_cell (b := wc2.heap.size) (grown_setCell (grown_setCell (grown_setCell (grown_refl _ _) _ _) _ _) _ _) hn2_1 xc3_5, grown_cell (b := wc2.heap.size) (grown_setCell (grown_setCell (grown_setCell (grown_refl _ _) _ _) _ _) _ _) hn2_2 xc3_6, grown_cell (b := wc2.heap.size) (grown_setCell (grown_setCell (grown_setCell (grown_refl _ _) _ _) _ _) _ _) hn2_2 xc3_7, grown_cell (b := wc2.heap.size) (grown_setCell (grown_setCell (grown_setCell (grown_refl _ _) _ _) _ _) _ _) hn2_2 xc3_8⟩))
      refine wpAnyH_ready (rs := [9]) (by kernel_rfl) (by simp) ?_
      refine AllReadyH.cons rfl (fun Kc hKc => ?_) AllReadyH.nil
      go_simp; go_at_call 30
      (with_reducible refine (addTensors_any HR.out TSt.out TSu.out HP.out _ _ wc2 (os1.tens.ext (((Ext.refl wc1).alloc _).trans hc2)) (os2.tens.ext (Ext.refl wc2))).mono ?_); rintro ec3 wc3 ⟨v3, rfl, oc, hc3⟩; have Ec3 : Ext w11 wc3 := Ec2.trans hc3; have xc3_0 := Ec3.cell ir0_11; have xc3_1 := Ec3.cell ir1_11; have xc3_2 := Ec3.cell ir2_11; have xc3_3 := Ec3.cell it0_11; have xc3_4 := Ec3.cell it1_11; have xc3_5 := Ec3.cell it2_11; have xc3_6 := Ec3.cell iu0_11; have xc3_7 := Ec3.cell iu1_11; have xc3_8 := Ec3.cell iu2_11; have hEc3s := Ec3.size; obtain ⟨cp1, cn1, cc1, cp2, cn2, cc2, cp3, cn3, cc3, rfl⟩ := oc.shape; have o4m := oc.mono (B' := w11.heap.size) (by omega); have hn3_0 : w1.heap.size ≠ wc3.heap.size := (by omega); have hn3_1 : w3.heap.size ≠ wc3.heap.size := (by omega); have hn3_2 : w5.heap.size ≠ wc3.heap.size := (by omega); have Y3 := Y2.ext hc3; have fb_0 := Y3.free 0; have yb_0 := Y3.cell (j := 0) rfl; have fb_1 := Y3.free 1; have yb_1 := Y3.cell (j := 1) rfl; have fb_2 := Y3.free 2; have yb_2 := Y3.cell (j := 2) rfl; have ylb := Y3.lt
      (try go_simp)
      refine hKc.out _ _ ?_ (fun hHeld => ?_) <;> clear hKc Kc
      · (first | (with_reducible exact ⟨D0.cell ir0_11, D0.cell ir1_11, D0.cell ir2_11, D0.cell it0_11, D0.cell it1_11, D0.cell it2_11, D0.cell iu0_11, D0.cell iu1_11, D0.cell iu2_11⟩) | (with_reducible exact ⟨(((Ext.refl w11).alloc _).drew).cell ir0_11, (((Ext.refl w11).alloc _).drew).cell ir1_11, (((Ext.refl w11).alloc _).drew).cell ir2_11, (((Ext.refl w11).alloc _).drew).cell it0_11, (((Ext.refl w11).alloc _).drew).cell it1_11, (((Ext.refl w11).alloc _).drew).cell it2_11, (((Ext.refl w11).alloc _).drew).cell iu0_11, (((Ext.refl w11).alloc _).drew).cell iu1_11, (((Ext.refl w11).alloc _).drew).cell iu2_11⟩) | (with_reducible exact ⟨xc1_0, xc1_1, xc1_2, xc1_3, xc1_4, xc1_5, xc1_6, xc1_7, xc1_8⟩) | (with_reducible exact ⟨(Ec1.alloc _).cell ir0_11, (Ec1.alloc _).cell ir1_11, (Ec1.alloc _).cell ir2_11, (Ec1.alloc _).cell it0_11, (Ec1.alloc _).cell it1_11, (Ec1.alloc _).cell it2_11, (Ec1.alloc _).cell iu0_11, (Ec1.alloc _).cell iu1_11, (Ec1.alloc _).cell iu2_11⟩) | (with_reducible exact ⟨xc2_0, xc2_1, xc2_2, xc2_3, xc2_4, xc2_5, xc2_6, xc2_7, xc2_8⟩) | (with_reducible exact ⟨(Ec2.alloc _).cell ir0_11, (Ec2.alloc _).cell ir1_11, (Ec2.alloc _).cell ir2_11, (Ec2.alloc _).cell it0_11, (Ec2.alloc _).cell it1_11, (Ec2.alloc _).cell it2_11, (Ec2.alloc _).cell iu0_11, (Ec2.alloc _).cell iu1_11, (Ec2.alloc _).cell iu2_11⟩) | (with_reducible exact ⟨xc3_0, xc3_1, xc3_2, xc3_3, xc3_4, xc3_5, xc3_6, xc3_7, xc3_8⟩) | (with_reducible exact ⟨(Ec3.alloc _).cell ir0_11, (Ec3.alloc _).cell ir1_11, (Ec3.alloc _).cell ir2_11, (Ec3.alloc _).cell it0_11, (Ec3.alloc _).cell it1_11, (Ec3.alloc _).cell it2_11, (Ec3.alloc _).cell iu0_11, (Ec3.alloc _).cell iu1_11, (Ec3.alloc _).cell iu2_11⟩) | (with_reducible exact ⟨grown_cell (b := w11.heap.size) (grown_setCell (grown_setCell (grown_setCell (grown_refl _ _) _ _) _ _) _ _) hn0_0 xc3_0, grown_cell (b := w11.heap.size) (grown_setCell (grown_setCell (grown_setCell (grown_refl _ _) _ _) _ _) _ _) hn0_0 xc3_1, grown_cell (b := w11.heap.size) (grown_setCell (grown_setCell (grown_setCell (grown_refl _ _) _ _) _ _) _ _) hn0_0 xc3_2, grown_cell (b := w11.heap.size) (grown_setCell (grown_setCell (grown_setCell (grown_refl _ _) _ _) _ _) _ _) hn0_1 xc3_3, grown_cell (b := w11.heap.size) (grown_setCell (grown_setCell (grown_setCell (grown_refl _ _) _ _) _ _) _ _) hn0_1 xc3_4, grown_cell (b := w11.heap.size) (grown_setCell (grown_setCell (grown_setCell (grown_refl _ _) _ _) _ _) _ _) hn0_1 xc3_5, grown_cell (b := w11.heap.size) (grown_setCell (grown_setCell (grown_setCell (grown_refl _ _) _ _) _ _) _ _) hn0_2 xc3_6, grown_cell (b := w11.heap.size) (grown_setCell (grown_setCell (grown_setCell (grown_refl _ _) _ _) _ _) _ _) hn0_2 xc3_7, grown_cell (b := w11.heap.size) (grown_setCell (grown_setCell (grown_setCell (grown_refl _ _) _ _) _ _) _ _) hn0_2 xc3_8⟩) | (with_reducible exact ⟨grown_cell (b := wc1.heap.size) (grown_setCell (grown_setCell (grown_setCell (grown_refl _ _) _ _) _ _) _ _) hn1_0 xc3_0, grown_cell (b := wc1.heap.size) (grown_setCell (grown_setCell (grown_setCell (grown_refl _ _) _ _) _ _) _ _) hn1_0 xc3_1, grown_cell (b := wc1.heap.size) (grown_setCell (grown_setCell (grown_setCell (grown_refl _ _) _ _) _ _) _ _) hn1_0 xc3_2, grown_cell (b := wc1.heap.size) (grown_setCell (grown_setCell (grown_setCell (grown_refl _ _) _ _) _ _) _ _) hn1_1 xc3_3, grown_cell (b := wc1.heap.size) (grown_setCell (grown_setCell (grown_setCell (grown_refl _ _) _ _) _ _) _ _) hn1_1 xc3_4, grown_cell (b := wc1.heap.size) (grown_setCell (grown_setCell (grown_setCell (grown_refl _ _) _ _) _ _) _ _) hn1_1 xc3_5, grown_cell (b := wc1.heap.size) (grown_setCell (grown_setCell (grown_setCell (grown_refl _ _) _ _) _ _) _ _) hn1_2 xc3_6, grown_cell (b := wc1.heap.size) (grown_setCell (grown_setCell (grown_setCell (grown_refl _ _) _ _) _ _) _ _) hn1_2 xc3_7, grown_cell (b := wc1.heap.size) (grown_setCell (grown_setCell (grown_setCell (grown_refl _ _) _ _) _ _) _ _) hn1_2 xc3_8⟩) | (with_reducible exact ⟨grown_cell (b := wc2.heap.size) (grown_setCell (grown_setCell (grown_setCell (grown_refl _ _) _ _) _ _) _ _) hn2_0 xc3_0, grown_cell (b := wc2.heap.size) (grown_setCell (grown_setCell (grown_setCell (grown_refl _ _) _ _) _ _) _ _) hn2_0 xc3_1, grown_cell (b := wc2.heap.size) (grown_setCell (grown_setCell (grown_setCell (grown_refl _ _) _ _) _ _) _ _) hn2_0 xc3_2, grown_cell (b := wc2.heap.size) (grown_setCell (grown_setCell (grown_setCell (grown_refl _ _) _ _) _ _) _ _) hn2_1 xc3_3, grown_cell (b := wc2.heap.size) (grown_setCell (grown_setCell (grown_setCell (grown_refl _ _) _ _) _ _) _ _) hn2_1 xc3_4, grown_cell (b := wc2.heap.size) (grown_setCell (grown_setCell (grown_setCell (grown_refl _ _) _ _) _ _) _ _) hn2_1 xc3_5, grown_cell (b := wc2.heap.size) (grown_setCell (grown_setCell (grown_setCell (grown_refl _ _) _ _) _ _) _ _) hn2_2 xc3_6, grown_cell (b := wc2.heap.size) (grown_setCell (grown_setCell (grown_setCell (grown_refl _ _) _ _) _ _) _ _) hn2_2 xc3_7, grown_cell (b := wc2.heap.size) (grown_setCell (grown_setCell (grown_setCell (grown_refl _ _) _ _) _ _) _ _) hn2_2 xc3_8⟩))
      refine wpAnyH_take (i := 10) (v := ?_) rfl (by kernel_rfl) (by kernel_rfl) (by kernel_rfl) (fun _ _ _ h => h) (Or.inl ⟨by rfl, ?_⟩) (by assumption) ?_
      rotate_left
      · intro w hSw; (try dsimp only at hSw); go_simp; (try with_reducible rfl)
      (try go_simp)
      refine wpAnyH_take (i := 11) (v := ?_) rfl (by kernel_rfl) (by kernel_rfl) (by kernel_rfl) (fun _ _ _ h => h) (Or.inl ⟨by rfl, ?_⟩) (by assumption) ?_
      rotate_left
      · intro w hSw; (try dsimp only at hSw); go_simp; (try with_reducible rfl)
      (try go_simp)
      refine wpAnyH_take (i := 12) (v := ?_) rfl (by kernel_rfl) (by kernel_rfl) (by kernel_rfl) (fun _ _ _ h => h) (Or.inl ⟨by rfl, ?_⟩) (by assumption) ?_
      rotate_left
      · intro w hSw; (try dsimp only at hSw); go_simp; (try with_reducible rfl)
      (try go_simp)
      refine wpAnyH_ready (rs := [14]) (by kernel_rfl) (by simp) ?_
      refine AllReadyH.cons rfl (fun Kc hKc => ?_) AllReadyH.nil
      go_simp
      refine hKc.out _ _ ?_ (fun hHeld => ?_) <;> clear hKc Kc
      · (first | (with_reducible exact ⟨D0.cell ir0_11, D0.cell ir1_11, D0.cell ir2_11, D0.cell it0_11, D0.cell it1_11, D0.cell it2_11, D0.cell iu0_11, D0.cell iu1_11, D0.cell iu2_11⟩) | (with_reducible exact ⟨(((Ext.refl w11).alloc _).drew).cell ir0_11, (((Ext.refl w11).alloc _).drew).cell ir1_11, (((Ext.refl w11).alloc _).drew).cell ir2_11, (((Ext.refl w11).alloc _).drew).cell it0_11, (((Ext.refl w11).alloc _).drew).cell it1_11, (((Ext.refl w11).alloc _).drew).cell it2_11, (((Ext.refl w11).alloc _).drew).cell iu0_11, (((Ext.refl w11).alloc _).drew).cell iu1_11, (((Ext.refl w11).alloc _).drew).cell iu2_11⟩) | (with_reducible exact ⟨xc1_0, xc1_1, xc1_2, xc1_3, xc1_4, xc1_5, xc1_6, xc1_7, xc1_8⟩) | (with_reducible exact ⟨(Ec1.alloc _).cell ir0_11, (Ec1.alloc _).cell ir1_11, (Ec1.alloc _).cell ir2_11, (Ec1.alloc _).cell it0_11, (Ec1.alloc _).cell it1_11, (Ec1.alloc _).cell it2_11, (Ec1.alloc _).cell iu0_11, (Ec1.alloc _).cell iu1_11, (Ec1.alloc _).cell iu2_11⟩) | (with_reducible exact ⟨xc2_0, xc2_1, xc2_2, xc2_3, xc2_4, xc2_5, xc2_6, xc2_7, xc2_8⟩) | (with_reducible exact ⟨(Ec2.alloc _).cell ir0_11, (Ec2.alloc _).cell ir1_11, (Ec2.alloc _).cell ir2_11, (Ec2.alloc _).cell it0_11, (Ec2.alloc _).cell it1_11, (Ec2.alloc _).cell it2_11, (Ec2.alloc _).cell iu0_11, (Ec2.alloc _).cell iu1_11, (Ec2.alloc _).cell iu2_11⟩) | (with_reducible exact ⟨xc3_0, xc3_1, xc3_2, xc3_3, xc3_4, xc3_5, xc3_6, xc3_7, xc3_8⟩) | (with_reducible exact ⟨(Ec3.alloc _).cell ir0_11, (Ec3.alloc _).cell ir1_11, (Ec3.alloc _).cell ir2_11, (Ec3.alloc _).cell it0_11, (Ec3.alloc _).cell it1_11, (Ec3.alloc _).cell it2_11, (Ec3.alloc _).cell iu0_11, (Ec3.alloc _).cell iu1_11, (Ec3.alloc _).cell iu2_11⟩) | (with_reducible exact ⟨grown_cell (b := w11.heap.size) (grown_setCell (grown_setCell (grown_setCell (grown_refl _ _) _ _) _ _) _ _) hn0_0 xc3_0, grown_cell (b := w11.heap.size) (grown_setCell (grown_setCell (grown_setCell (grown_refl _ _) _ _) _ _) _ _) hn0_0 xc3_1, grown_cell (b := w11.heap.size) (grown_setCell (grown_setCell (grown_setCell (grown_refl _ _) _ _) _ _) _ _) hn0_0 xc3_2, grown_cell (b := w11.heap.size) (grown_setCell (grown_setCell (grown_setCell (grown_refl _ _) _ _) _ _) _ _) hn0_1 xc3_3, grown_cell (b := w11.heap.size) (grown_setCell (grown_setCell (grown_setCell (grown_refl _ _) _ _) _ _) _ _) hn0_1 xc3_4, grown_cell (b := w11.heap.size) (grown_setCell (grown_setCell (grown_setCell (grown_refl _ _) _ _) _ _) _ _) hn0_1 xc3_5, grown_cell (b := w11.heap.size) (grown_setCell (grown_setCell (grown_setCell (grown_refl _ _) _ _) _ _) _ _) hn0_2 xc3_6, grown_cell (b := w11.heap.size) (grown_setCell (grown_setCell (grown_setCell (grown_refl _ _) _ _) _ _) _ _) hn0_2 xc3_7, grown_cell (b := w11.heap.size) (grown_setCell (grown_setCell (grown_setCell (grown_refl _ _) _ _) _ _) _ _) hn0_2 xc3_8⟩) | (with_reducible exact ⟨grown_cell (b := wc1.heap.size) (grown_setCell (grown_setCell (grown_setCell (grown_refl _ _) _ _) _ _) _ _) hn1_0 xc3_0, grown_cell (b := wc1.heap.size) (grown_setCell (grown_setCell (grown_setCell (grown_refl _ _) _ _) _ _) _ _) hn1_0 xc3_1, grown_cell (b := wc1.heap.size) (grown_setCell (grown_setCell (grown_setCell (grown_refl _ _) _ _) _ _) _ _) hn1_0 xc3_2, grown_cell (b := wc1.heap.size) (grown_setCell (grown_setCell (grown_setCell (grown_refl _ _) _ _) _ _) _ _) hn1_1 xc3_3, grown_cell (b := wc1.heap.size) (grown_setCell (grown_setCell (grown_setCell (grown_refl _ _) _ _) _ _) _ _) hn1_1 xc3_4, grown_cell (b := wc1.heap.size) (grown_setCell (grown_setCell (grown_setCell (grown_refl _ _) _ _) _ _) _ _) hn1_1 xc3_5, grown_cell (b := wc1.heap.size) (grown_setCell (grown_setCell (grown_setCell (grown_refl _ _) _ _) _ _) _ _) hn1_2 xc3_6, grown_cell (b := wc1.heap.size) (grown_setCell (grown_setCell (grown_setCell (grown_refl _ _) _ _) _ _) _ _) hn1_2 xc3_7, grown_cell (b := wc1.heap.size) (grown_setCell (grown_setCell (grown_setCell (grown_refl _ _) _ _) _ _) _ _) hn1_2 xc3_8⟩) | (with_reducible exact ⟨grown_cell (b := wc2.heap.size) (grown_setCell (grown_setCell (grown_setCell (grown_refl _ _) _ _) _ _) _ _) hn2_0 xc3_0, grown_cell (b := wc2.heap.size) (grown_setCell (grown_setCell (grown_setCell (grown_refl _ _) _ _) _ _) _ _) hn2_0 xc3_1, grown_cell (b := wc2.heap.size) (grown_setCell (grown_setCell (grown_setCell (grown_refl _ _) _ _) _ _) _ _) hn2_0 xc3_2, grown_cell (b := wc2.heap.size) (grown_setCell (grown_setCell (grown_setCell (grown_refl _ _) _ _) _ _) _ _) hn2_1 xc3_3, grown_cell (b := wc2.heap.size) (grown_setCell (grown_setCell (grown_setCell (grown_refl _ _) _ _) _ _) _ _) hn2_1 xc3_4, grown_cell (b := wc2.heap.size) (grown_setCell (grown_setCell (grown_setCell (grown_refl _ _) _ _) _ _) _ _) hn2_1 xc3_5, grown_cell (b := wc2.heap.size) (grown_setCell (grown_setCell (grown_setCell (grown_refl _ _) _ _) _ _) _ _) hn2_2 xc3_6, grown_cell (b := wc2.heap.size) (grown_setCell (grown_setCell (grown_setCell (grown_refl _ _) _ _) _ _) _ _) hn2_2 xc3_7, grown_cell (b := wc2.heap.size) (grown_setCell (grown_setCell (grown_setCell (grown_refl _ _) _ _) _ _) _ _) hn2_2 xc3_8⟩))
      refine wpAnyH_ready (rs := [15]) (by kernel_rfl) (by simp) ?_
      refine AllReadyH.cons rfl (fun Kc hKc => ?_) AllReadyH.nil
      go_simp
      refine hKc.out _ _ ?_ (fun hHeld => ?_) <;> clear hKc Kc
      · (first | (with_reducible exact ⟨D0.cell ir0_11, D0.cell ir1_11, D0.cell ir2_11, D0.cell it0_11, D0.cell it1_11, D0.cell it2_11, D0.cell iu0_11, D0.cell iu1_11, D0.cell iu2_11⟩) | (with_reducible exact ⟨(((Ext.refl w11).alloc _).drew).cell ir0_11, (((Ext.refl w11).alloc _).drew).cell ir1_11, (((Ext.refl w11).alloc _).drew).cell ir2_11, (((Ext.refl w11).alloc _).drew).cell it0_11, (((Ext.refl w11).alloc _).drew).cell it1_11, (((Ext.refl w11).alloc _).drew).cell it2_11, (((Ext.refl w11).alloc _).drew).cell iu0_11, (((Ext.refl w11).alloc _).drew).cell iu1_11, (((Ext.refl w11).alloc _).drew).cell iu2_11⟩) | (with_reducible exact ⟨xc1_0, xc1_1, xc1_2, xc1_3, xc1_4, xc1_5, xc1_6, xc1_7, xc1_8⟩) | (with_reducible exact ⟨(Ec1.alloc _).cell ir0_11, (Ec1.alloc _).cell ir1_11, (Ec1.alloc _).cell ir2_11, (Ec1.alloc _).cell it0_11, (Ec1.alloc _).cell it1_11, (Ec1.alloc _).cell it2_11, (Ec1.alloc _).cell iu0_11, (Ec1.alloc _).cell iu1_11, (Ec1.alloc _).cell iu2_11⟩) | (with_reducible exact ⟨xc2_0, xc2_1, xc2_2, xc2_3, xc2_4, xc2_5, xc2_6, xc2_7, xc2_8⟩) | (with_reducible exact ⟨(Ec2.alloc _).cell ir0_11, (Ec2.alloc _).cell ir1_11, (Ec2.alloc _).cell ir2_11, (Ec2.alloc _).cell it0_11, (Ec2.alloc _).cell it1_11, (Ec2.alloc _).cell it2_11, (Ec2.alloc _).cell iu0_11, (Ec2.alloc _).cell iu1_11, (Ec2.alloc _).cell iu2_11⟩) | (with_reducible exact ⟨xc3_0, xc3_1, xc3_2, xc3_3, xc3_4, xc3_5, xc3_6, xc3_7, xc3_8⟩) | (with_reducible exact ⟨(Ec3.alloc _).cell ir0_11, (Ec3.alloc _).cell ir1_11, (Ec3.alloc _).cell ir2_11, (Ec3.alloc _).cell it0_11, (Ec3.alloc _).cell it1_11, (Ec3.alloc _).cell it2_11, (Ec3.alloc _).cell iu0_11, (Ec3.alloc _).cell iu1_11, (Ec3.alloc _).cell iu2_11⟩) | (with_reducible exact ⟨grown_cell (b := w11.heap.size) (grown_setCell (grown_setCell (grown_setCell (grown_refl _ _) _ _) _ _) _ _) hn0_0 xc3_0, grown_cell (b := w11.heap.size) (grown_setCell (grown_setCell (grown_setCell (grown_refl _ _) _ _) _ _) _ _) hn0_0 xc3_1, grown_cell (b := w11.heap.size) (grown_setCell (grown_setCell (grown_setCell (grown_refl _ _) _ _) _ _) _ _) hn0_0 xc3_2, grown_cell (b := w11.heap.size) (grown_setCell (grown_setCell (grown_setCell (grown_refl _ _) _ _) _ _) _ _) hn0_1 xc3_3, grown_cell (b := w11.heap.size) (grown_setCell (grown_setCell (grown_setCell (grown_refl _ _) _ _) _ _) _ _) hn0_1 xc3_4, grown_cell (b := w11.heap.size) (grown_setCell (grown_setCell (grown_setCell (grown_refl _ _) _ _) _ _) _ _) hn0_1 xc3_5, grown_cell (b := w11.heap.size) (grown_setCell (grown_setCell (grown_setCell (grown_refl _ _) _ _) _ _) _ _) hn0_2 xc3_6, grown_cell (b := w11.heap.size) (grown_setCell (grown_setCell (grown_setCell (grown_refl _ _) _ _) _ _) _ _) hn0_2 xc3_7, grown_cell (b := w11.heap.size) (grown_setCell (grown_setCell (grown_setCell (grown_refl _ _) _ _) _ _) _ _) hn0_2 xc3_8⟩) | (with_reducible exact ⟨grown_cell (b := wc1.heap.size) (grown_setCell (grown_setCell (grown_setCell (grown_refl _ _) _ _) _ _) _ _) hn1_0 xc3_0, grown_cell (b := wc1.heap.size) (grown_setCell (grown_setCell (grown_setCell (grown_refl _ _) _ _) _ _) _ _) hn1_0 xc3_1, grown_cell (b := wc1.heap.size) (grown_setCell (grown_setCell (grown_setCell (grown_refl _ _) _ _) _ _) _ _) hn1_0 xc3_2, grown_cell (b := wc1.heap.size) (grown_setCell (grown_setCell (grown_setCell (grown_refl _ _) _ _) _ _) _ _) hn1_1 xc3_3, grown_cell (b := wc1.heap.size) (grown_setCell (grown_setCell (grown_setCell (grown_refl _ _) _ _) _ _) _ _) hn1_1 xc3_4, grown_cell (b := wc1.heap.size) (grown_setCell (grown_setCell (grown_setCell (grown_refl _ _) _ _) _ _) _ _) hn1_1 xc3_5, grown_cell (b := wc1.heap.size) (grown_setCell (grown_setCell (grown_setCell (grown_refl _ _) _ _) _ _) _ _) hn1_2 xc3_6, grown_cell (b := wc1.heap.size) (grown_setCell (grown_setCell (grown_setCell (grown_refl _ _) _ _) _ _) _ _) hn1_2 xc3_7, grown_cell (b := wc1.heap.size) (grown_setCell (grown_setCell (grown_setCell (grown_refl _ _) _ _) _ _) _ _) hn1_2 xc3_8⟩) | (with_reducible exact ⟨grown_cell (b := wc2.heap.size) (grown_setCell (grown_setCell (grown_setCell (grown_refl _ _) _ _) _ _) _ _) hn2_0 xc3_0, grown_cell (b := wc2.heap.size) (grown_setCell (grown_setCell (grown_setCell (grown_refl _ _) _ _) _ _) _ _) hn2_0 xc3_1, grown_cell (b := wc2.heap.size) (grown_setCell (grown_setCell (grown_setCell (grown_refl _ _) _ _) _ _) _ _) hn2_0 xc3_2, grown_cell (b := wc2.heap.size) (grown_setCell (grown_setCell (grown_setCell (grown_refl _ _) _ _) _ _) _ _) hn2_1 xc3_3, grown_cell (b := wc2.heap.size) (grown_setCell (grown_setCell (grown_setCell (grown_refl _ _) _ _) _ _) _ _) hn2_1 xc3_4, grown_cell (b := wc2.heap.size) (grown_setCell (grown_setCell (grown_setCell (grown_refl _ _) _ _) _ _) _ _) hn2_1 xc3_5, grown_cell (b := wc2.heap.size) (grown_setCell (grown_setCell (grown_setCell (grown_refl _ _) _ _) _ _) _ _) hn2_2 xc3_6, grown_cell (b := wc2.heap.size) (grown_setCell (grown_setCell (grown_setCell (grown_refl _ _) _ _) _ _) _ _) hn2_2 xc3_7, grown_cell (b := wc2.heap.size) (grown_setCell (grown_setCell (grown_setCell (grown_refl _ _) _ _) _ _) _ _) hn2_2 xc3_8⟩))
      refine wpAnyH_done (by kernel_rfl) ?_ _
      go_wp2_with fail
      go_meet
      exact ⟨wc1.heap.size, cp1, cn1, cc1, cp2, cn2, cc2, cp3, cn3, cc3, rfl, rfl, ((Y3.set 0 (.slice cp1 cn1 cc1)).set 1 (.slice cp2 cn2 cc2)).set 2 (.slice cp3 cn3 cc3), ((Ec3.setAt hEc1s _ _).setAt hEc1s _ _).setAt hEc1s _ _, (((oc.setBelow (p := ⟨wc1.heap.size, 0, none⟩) ltY2 _).setBelow (p := ⟨wc1.heap.size, 1, none⟩) ltY2 _).setBelow (p := ⟨wc1.heap.size, 2, none⟩) ltY2 _).mono (by omega)⟩
    refine AllReadyH.cons rfl (fun Kc hKc => ?_) AllReadyH.nil
    go_simp
    refine hKc.out _ _ ?_ (fun hHeld => ?_) <;> clear hKc Kc
    · (first | (with_reducible exact ⟨D0.cell ir0_11, D0.cell ir1_11, D0.cell ir2_11, D0.cell it0_11, D0.cell it1_11, D0.cell it2_11, D0.cell iu0_11, D0.cell iu1_11, D0.cell iu2_11⟩) | (with_reducible exact ⟨(((Ext.refl w11).alloc _).drew).cell ir0_11, (((Ext.refl w11).alloc _).drew).cell ir1_11, (((Ext.refl w11).alloc _).drew).cell ir2_11, (((Ext.refl w11).alloc _).drew).cell it0_11, (((Ext.refl w11).alloc _).drew).cell it1_11, (((Ext.refl w11).alloc _).drew).cell it2_11, (((Ext.refl w11).alloc _).drew).cell iu0_11, (((Ext.refl w11).alloc _).drew).cell iu1_11, (((Ext.refl w11).alloc _).drew).cell iu2_11⟩) | (with_reducible exact ⟨xc1_0, xc1_1, xc1_2, xc1_3, xc1_4, xc1_5, xc1_6, xc1_7, xc1_8⟩) | (with_reducible exact ⟨(Ec1.alloc _).cell ir0_11, (Ec1.alloc _).cell ir1_11, (Ec1.alloc _).cell ir2_11, (Ec1.alloc _).cell it0_11, (Ec1.alloc _).cell it1_11, (Ec1.alloc _).cell it2_11, (Ec1.alloc _).cell iu0_11, (Ec1.alloc _).cell iu1_11, (Ec1.alloc _).cell iu2_11⟩) | (with_reducible exact ⟨xc2_0, xc2_1, xc2_2, xc2_3, xc2_4, xc2_5, xc2_6, xc2_7, xc2_8⟩) | (with_reducible exact ⟨(Ec2.alloc _).cell ir0_11, (Ec2.alloc _).cell ir1_11, (Ec2.alloc _).cell ir2_11, (Ec2.alloc _).cell it0_11, (Ec2.alloc _).cell it1_11, (Ec2.alloc _).cell it2_11, (Ec2.alloc _).cell iu0_11, (Ec2.alloc _).cell iu1_11, (Ec2.alloc _).cell iu2_11⟩) | (with_reducible exact ⟨xc3_0, xc3_1, xc3_2, xc3_3, xc3_4, xc3_5, xc3_6, xc3_7, xc3_8⟩) | (with_reducible exact ⟨(Ec3.alloc _).cell ir0_11, (Ec3.alloc _).cell ir1_11, (Ec3.alloc _).cell ir2_11, (Ec3.alloc _).cell it0_11, (Ec3.alloc _).cell it1_11, (Ec3.alloc _).cell it2_11, (Ec3.alloc _).cell iu0_11, (Ec3.alloc _).cell iu1_11, (Ec3.alloc _).cell iu2_11⟩) | (with_reducible exact ⟨grown_cell (b := w11.heap.size) (grown_setCell (grown_setCell (grown_setCell (grown_refl _ _) _ _) _ _) _ _) hn0_0 xc3_0, grown_cell (b := w11.heap.size) (grown_setCell (grown_setCell (grown_setCell (grown_refl _ _) _ _) _ _) _ _) hn0_0 xc3_1, grown_cell (b := w11.heap.size) (grown_setCell (grown_setCell (grown_setCell (grown_refl _ _) _ _) _ _) _ _) hn0_0 xc3_2, grown_cell (b := w11.heap.size) (grown_setCell (grown_setCell (grown_setCell (grown_refl _ _) _ _) _ _) _ _) hn0_1 xc3_3, grown_cell (b := w11.heap.size) (grown_setCell (grown_setCell (grown_setCell (grown_refl _ _) _ _) _ _) _ _) hn0_1 xc3_4, grown_cell (b := w11.heap.size) (grown_setCell (grown_setCell (grown_setCell (grown_refl _ _) _ _) _ _) _ _) hn0_1 xc3_5, grown_cell (b := w11.heap.size) (grown_setCell (grown_setCell (grown_setCell (grown_refl _ _) _ _) _ _) _ _) hn0_2 xc3_6, grown_cell (b := w11.heap.size) (grown_setCell (grown_setCell (grown_setCell (grown_refl _ _) _ _) _ _) _ _) hn0_2 xc3_7, grown_cell (b := w11.heap.size) (grown_setCell (grown_setCell (grown_setCell (grown_refl _ _) _ _) _ _) _ _) hn0_2 xc3_8⟩) | (with_reducible exact ⟨grown_cell (b := wc1.heap.size) (grown_setCell (grown_setCell (grown_setCell (grown_refl _ _) _ _) _ _) _ _) hn1_0 xc3_0, grown_cell (b := wc1.heap.size) (grown_setCell (grown_setCell (grown_setCell (grown_refl _ _) _ _) _ _) _ _) hn1_0 xc3_1, grown_cell (b := wc1.heap.size) (grown_setCell (grown_setCell (grown_setCell (grown_refl _ _) _ _) _ _) _ _) hn1_0 xc3_2, grown_cell (b := wc1.heap.size) (grown_setCell (grown_setCell (grown_setCell (grown_refl _ _) _ _) _ _) _ _) hn1_1 xc3_3, grown_cell (b := wc1.heap.size) (grown_setCell (grown_setCell (grown_setCell (grown_refl _ _) _ _) _ _) _ _) hn1_1 xc3_4, grown_cell (b := wc1.heap.size) (grown_setCell (grown_setCell (grown_setCell (grown_refl _ _) _ _) _ _) _ _) hn1_1 xc3_5, grown_cell (b := wc1.heap.size) (grown_setCell (grown_setCell (grown_setCell (grown_refl _ _) _ _) _ _) _ _) hn1_2 xc3_6, grown_cell (b := wc1.heap.size) (grown_setCell (grown_setCell (grown_setCell (grown_refl _ _) _ _) _ _) _ _) hn1_2 xc3_7, grown_cell (b := wc1.heap.size) (grown_setCell (grown_setCell (grown_setCell (grown_refl _ _) _ _) _ _) _ _) hn1_2 xc3_8⟩) | (with_reducible exact ⟨grown_cell (b := wc2.heap.size) (grown_setCell (grown_setCell (grown_setCell (grown_refl _ _) _ _) _ _) _ _) hn2_0 xc3_0, grown_cell (b := wc2.heap.size) (grown_setCell (grown_setCell (grown_setCell (grown_refl _ _) _ _) _ _) _ _) hn2_0 xc3_1, grown_cell (b := wc2.heap.size) (grown_setCell (grown_setCell (grown_setCell (grown_refl _ _) _ _) _ _) _ _) hn2_0 xc3_2, grown_cell (b := wc2.heap.size) (grown_setCell (grown_setCell (grown_setCell (grown_refl _ _) _ _) _ _) _ _) hn2_1 xc3_3, grown_cell (b := wc2.heap.size) (grown_setCell (grown_setCell (grown_setCell (grown_refl _ _) _ _) _ _) _ _) hn2_1 xc3_4, grown_cell (b := wc2.heap.size) (grown_setCell (grown_setCell (grown_setCell (grown_refl _ _) _ _) _ _) _ _) hn2_1 xc3_5, grown_cell (b := wc2.heap.size) (grown_setCell (grown_setCell (grown_setCell (grown_refl _ _) _ _) _ _) _ _) hn2_2 xc3_6, grown_cell (b := wc2.heap.size) (grown_setCell (grown_setCell (grown_setCell (grown_refl _ _) _ _) _ _) _ _) hn2_2 xc3_7, grown_cell (b := wc2.heap.size) (grown_setCell (grown_setCell (grown_setCell (grown_refl _ _) _ _) _ _) _ _) hn2_2 xc3_8⟩))
    refine wpAnyH_ready (rs := [4]) (by kernel_rfl) (by simp) ?_
    refine AllReadyH.cons rfl (fun Kc hKc => ?_) AllReadyH.nil
    go_simp; go_at_call 31
    (with_reducible refine (scaleTensor_any HR.out Tt.out xe _ _ (w11.alloc (.cells #[.slice none 0 0, .slice none 0 0, .slice none 0 0] 31)).drew ((ot.tens.ext (h4.trans (h5.trans (h6.trans (h7.trans (h8.trans (h9.trans (h10.trans h11)))))))).ext (((Ext.refl w11).alloc _).drew)) ((ox.ints.ext (h8.trans (h9.trans (h10.trans h11)))).ext (((Ext.refl w11).alloc _).drew))).mono ?_); rintro ec1 wc1 ⟨v1, rfl, os1, hc1⟩; have Ec1 : Ext w11 wc1 := (((Ext.refl w11).alloc _).drew).trans hc1; have xc1_0 := Ec1.cell ir0_11; have xc1_1 := Ec1.cell ir1_11; have xc1_2 := Ec1.cell ir2_11; have xc1_3 := Ec1.cell it0_11; have xc1_4 := Ec1.cell it1_11; have xc1_5 := Ec1.cell it2_11; have xc1_6 := Ec1.cell iu0_11; have xc1_7 := Ec1.cell iu1_11; have xc1_8 := Ec1.cell iu2_11; have hEc1s := Ec1.size; obtain ⟨s1p1, s1n1, s1c1, s1p2, s1n2, s1c2, s1p3, s1n3, s1c3, rfl⟩ := os1.shape; have hn1_0 : w1.heap.size ≠ wc1.heap.size := (by omega); have hn1_1 : w3.heap.size ≠ wc1.heap.size := (by omega); have hn1_2 : w5.heap.size ≠ wc1.heap.size := (by omega); have Y1 : Blk wc1 w11.heap.size 31 [.slice none 0 0, .slice none 0 0, .slice none 0 0] := ((Blk.new w11 #[.slice none 0 0, .slice none 0 0, .slice none 0 0] 31).ext ((Ext.refl _).drew)).ext hc1; have ltY1 := Y1.lt
    (try go_simp)
    refine hKc.out _ _ ?_ (fun hHeld => ?_) <;> clear hKc Kc
    · (first | (with_reducible exact ⟨D0.cell ir0_11, D0.cell ir1_11, D0.cell ir2_11, D0.cell it0_11, D0.cell it1_11, D0.cell it2_11, D0.cell iu0_11, D0.cell iu1_11, D0.cell iu2_11⟩) | (with_reducible exact ⟨(((Ext.refl w11).alloc _).drew).cell ir0_11, (((Ext.refl w11).alloc _).drew).cell ir1_11, (((Ext.refl w11).alloc _).drew).cell ir2_11, (((Ext.refl w11).alloc _).drew).cell it0_11, (((Ext.refl w11).alloc _).drew).cell it1_11, (((Ext.refl w11).alloc _).drew).cell it2_11, (((Ext.refl w11).alloc _).drew).cell iu0_11, (((Ext.refl w11).alloc _).drew).cell iu1_11, (((Ext.refl w11).alloc _).drew).cell iu2_11⟩) | (with_reducible exact ⟨xc1_0, xc1_1, xc1_2, xc1_3, xc1_4, xc1_5, xc1_6, xc1_7, xc1_8⟩) | (with_reducible exact ⟨(Ec1.alloc _).cell ir0_11, (Ec1.alloc _).cell ir1_11, (Ec1.alloc _).cell ir2_11, (Ec1.alloc _).cell it0_11, (Ec1.alloc _).cell it1_11, (Ec1.alloc _).cell it2_11, (Ec1.alloc _).cell iu0_11, (Ec1.alloc _).cell iu1_11, (Ec1.alloc _).cell iu2_11⟩) | (with_reducible exact ⟨xc2_0, xc2_1, xc2_2, xc2_3, xc2_4, xc2_5, xc2_6, xc2_7, xc2_8⟩) | (with_reducible exact ⟨(Ec2.alloc _).cell ir0_11, (Ec2.alloc _).cell ir1_11, (Ec2.alloc _).cell ir2_11, (Ec2.alloc _).cell it0_11, (Ec2.alloc _).cell it1_11, (Ec2.alloc _).cell it2_11, (Ec2.alloc _).cell iu0_11, (Ec2.alloc _).cell iu1_11, (Ec2.alloc _).cell iu2_11⟩) | (with_reducible exact ⟨xc3_0, xc3_1, xc3_2, xc3_3, xc3_4, xc3_5, xc3_6, xc3_7, xc3_8⟩) | (with_reducible exact ⟨(Ec3.alloc _).cell ir0_11, (Ec3.alloc _).cell ir1_11, (Ec3.alloc _).cell ir2_11, (Ec3.alloc _).cell it0_11, (Ec3.alloc _).cell it1_11, (Ec3.alloc _).cell it2_11, (Ec3.alloc _).cell iu0_11, (Ec3.alloc _).cell iu1_11, (Ec3.alloc _).cell iu2_11⟩) | (with_reducible exact ⟨grown_cell (b := w11.heap.size) (grown_setCell (grown_setCell (grown_setCell (grown_refl _ _) _ _) _ _) _ _) hn0_0 xc3_0, grown_cell (b := w11.heap.size) (grown_setCell (grown_setCell (grown_setCell (grown_refl _ _) _ _) _ _) _ _) hn0_0 xc3_1, grown_cell (b := w11.heap.size) (grown_setCell (grown_setCell (grown_setCell (grown_refl _ _) _ _) _ _) _ _) hn0_0 xc3_2, grown_cell (b := w11.heap.size) (grown_setCell (grown_setCell (grown_setCell (grown_refl _ _) _ _) _ _) _ _) hn0_1 xc3_3, grown_cell (b := w11.heap.size) (grown_setCell (grown_setCell (grown_setCell (grown_refl _ _) _ _) _ _) _ _) hn0_1 xc3_4, grown_cell (b := w11.heap.size) (grown_setCell (grown_setCell (grown_setCell (grown_refl _ _) _ _) _ _) _ _) hn0_1 xc3_5, grown_cell (b := w11.heap.size) (grown_setCell (grown_setCell (grown_setCell (grown_refl _ _) _ _) _ _) _ _) hn0_2 xc3_6, grown_cell (b := w11.heap.size) (grown_setCell (grown_setCell (grown_setCell (grown_refl _ _) _ _) _ _) _ _) hn0_2 xc3_7, grown_cell (b := w11.heap.size) (grown_setCell (grown_setCell (grown_setCell (grown_refl _ _) _ _) _ _) _ _) hn0_2 xc3_8⟩) | (with_reducible exact ⟨grown_cell (b := wc1.heap.size) (grown_setCell (grown_setCell (grown_setCell (grown_refl _ _) _ _) _ _) _ _) hn1_0 xc3_0, grown_cell (b := wc1.heap.size) (grown_setCell (grown_setCell (grown_setCell (grown_refl _ _) _ _) _ _) _ _) hn1_0 xc3_1, grown_cell (b := wc1.heap.size) (grown_setCell (grown_setCell (grown_setCell (grown_refl _ _) _ _) _ _) _ _) hn1_0 xc3_2, grown_cell (b := wc1.heap.size) (grown_setCell (grown_setCell (grown_setCell (grown_refl _ _) _ _) _ _) _ _) hn1_1 xc3_3, grown_cell (b := wc1.heap.size) (grown_setCell (grown_setCell (grown_setCell (grown_refl _ _) _ _) _ _) _ _) hn1_1 xc3_4, grown_cell (b := wc1.heap.size) (grown_setCell (grown_setCell (grown_setCell (grown_refl _ _) _ _) _ _) _ _) hn1_1 xc3_5, grown_cell (b := wc1.heap.size) (grown_setCell (grown_setCell (grown_setCell (grown_refl _ _) _ _) _ _) _ _) hn1_2 xc3_6, grown_cell (b := wc1.heap.size) (grown_setCell (grown_setCell (grown_setCell (grown_refl _ _) _ _) _ _) _ _) hn1_2 xc3_7, grown_cell (b := wc1.heap.size) (grown_setCell (grown_setCell (grown_setCell (grown_refl _ _) _ _) _ _) _ _) hn1_2 xc3_8⟩) | (with_reducible exact ⟨grown_cell (b := wc2.heap.size) (grown_setCell (grown_setCell (grown_setCell (grown_refl _ _) _ _) _ _) _ _) hn2_0 xc3_0, grown_cell (b := wc2.heap.size) (grown_setCell (grown_setCell (grown_setCell (grown_refl _ _) _ _) _ _) _ _) hn2_0 xc3_1, grown_cell (b := wc2.heap.size) (grown_setCell (grown_setCell (grown_setCell (grown_refl _ _) _ _) _ _) _ _) hn2_0 xc3_2, grown_cell (b := wc2.heap.size) (grown_setCell (grown_setCell (grown_setCell (grown_refl _ _) _ _) _ _) _ _) hn2_1 xc3_3, grown_cell (b := wc2.heap.size) (grown_setCell (grown_setCell (grown_setCell (grown_refl _ _) _ _) _ _) _ _) hn2_1 xc3_4, grown_cell (b := wc2.heap.size) (grown_setCell (grown_setCell (grown_setCell (grown_refl _ _) _ _) _ _) _ _) hn2_1 xc3_5, grown_cell (b := wc2.heap.size) (grown_setCell (grown_setCell (grown_setCell (grown_refl _ _) _ _) _ _) _ _) hn2_2 xc3_6, grown_cell (b := wc2.heap.size) (grown_setCell (grown_setCell (grown_setCell (grown_refl _ _) _ _) _ _) _ _) hn2_2 xc3_7, grown_cell (b := wc2.heap.size) (grown_setCell (grown_setCell (grown_setCell (grown_refl _ _) _ _) _ _) _ _) hn2_2 xc3_8⟩))
    refine wpAnyH_ready (rs := [8]) (by kernel_rfl) (by simp) ?_
    refine AllReadyH.cons rfl (fun Kc hKc => ?_) AllReadyH.nil
    go_simp; go_at_call 31
    (with_reducible refine (scaleTensor_any HR.out Tu.out xe _ _ wc1 ((ou.tens.ext (h6.trans (h7.trans (h8.trans (h9.trans (h10.trans h11)))))).ext Ec1) ((ox.ints.ext (h8.trans (h9.trans (h10.trans h11)))).ext Ec1)).mono ?_); rintro ec2 wc2 ⟨v2, rfl, os2, hc2⟩; have Ec2 : Ext w11 wc2 := Ec1.trans hc2; have xc2_0 := Ec2.cell ir0_11; have xc2_1 := Ec2.cell ir1_11; have xc2_2 := Ec2.cell ir2_11; have xc2_3 := Ec2.cell it0_11; have xc2_4 := Ec2.cell it1_11; have xc2_5 := Ec2.cell it2_11; have xc2_6 := Ec2.cell iu0_11; have xc2_7 := Ec2.cell iu1_11; have xc2_8 := Ec2.cell iu2_11; have hEc2s := Ec2.size; obtain ⟨s2p1, s2n1, s2c1, s2p2, s2n2, s2c2, s2p3, s2n3, s2c3, rfl⟩ := os2.shape; have hn2_0 : w1.heap.size ≠ wc2.heap.size := (by omega); have hn2_1 : w3.heap.size ≠ wc2.heap.size := (by omega); have hn2_2 : w5.heap.size ≠ wc2.heap.size := (by omega); have Y2 := Y1.ext hc2; have ltY2 := Y2.lt
    (try go_simp)
    refine hKc.out _ _ ?_ (fun hHeld => ?_) <;> clear hKc Kc
    · (first | (with_reducible exact ⟨D0.cell ir0_11, D0.cell ir1_11, D0.cell ir2_11, D0.cell it0_11, D0.cell it1_11, D0.cell it2_11, D0.cell iu0_11, D0.cell iu1_11, D0.cell iu2_11⟩) | (with_reducible exact ⟨(((Ext.refl w11).alloc _).drew).cell ir0_11, (((Ext.refl w11).alloc _).drew).cell ir1_11, (((Ext.refl w11).alloc _).drew).cell ir2_11, (((Ext.refl w11).alloc _).drew).cell it0_11, (((Ext.refl w11).alloc _).drew).cell it1_11, (((Ext.refl w11).alloc _).drew).cell it2_11, (((Ext.refl w11).alloc _).drew).cell iu0_11, (((Ext.refl w11).alloc _).drew).cell iu1_11, (((Ext.refl w11).alloc _).drew).cell iu2_11⟩) | (with_reducible exact ⟨xc1_0, xc1_1, xc1_2, xc1_3, xc1_4, xc1_5, xc1_6, xc1_7, xc1_8⟩) | (with_reducible exact ⟨(Ec1.alloc _).cell ir0_11, (Ec1.alloc _).cell ir1_11, (Ec1.alloc _).cell ir2_11, (Ec1.alloc _).cell it0_11, (Ec1.alloc _).cell it1_11, (Ec1.alloc _).cell it2_11, (Ec1.alloc _).cell iu0_11, (Ec1.alloc _).cell iu1_11, (Ec1.alloc _).cell iu2_11⟩) | (with_reducible exact ⟨xc2_0, xc2_1, xc2_2, xc2_3, xc2_4, xc2_5, xc2_6, xc2_7, xc2_8⟩) | (with_reducible exact ⟨(Ec2.alloc _).cell ir0_11, (Ec2.alloc _).cell ir1_11, (Ec2.alloc _).cell ir2_11, (Ec2.alloc _).cell it0_11, (Ec2.alloc _).cell it1_11, (Ec2.alloc _).cell it2_11, (Ec2.alloc _).cell iu0_11, (Ec2.alloc _).cell iu1_11, (Ec2.alloc _).cell iu2_11⟩) | (with_reducible exact ⟨xc3_0, xc3_1, xc3_2, xc3_3, xc3_4, xc3_5, xc3_6, xc3_7, xc3_8⟩) | (with_reducible exact ⟨(Ec3.alloc _).cell ir0_11, (Ec3.alloc _).cell ir1_11, (Ec3.alloc _).cell ir2_11, (Ec3.alloc _).cell it0_11, (Ec3.alloc _).cell it1_11, (Ec3.alloc _).cell it2_11, (Ec3.alloc _).cell iu0_11, (Ec3.alloc _).cell iu1_11, (Ec3.alloc _).cell iu2_11⟩) | (with_reducible exact ⟨grown_cell (b := w11.heap.size) (grown_setCell (grown_setCell (grown_setCell (grown_refl _ _) _ _) _ _) _ _) hn0_0 xc3_0, grown_cell (b := w11.heap.size) (grown_setCell (grown_setCell (grown_setCell (grown_refl _ _) _ _) _ _) _ _) hn0_0 xc3_1, grown_cell (b := w11.heap.size) (grown_setCell (grown_setCell (grown_setCell (grown_refl _ _) _ _) _ _) _ _) hn0_0 xc3_2, grown_cell (b := w11.heap.size) (grown_setCell (grown_setCell (grown_setCell (grown_refl _ _) _ _) _ _) _ _) hn0_1 xc3_3, grown_cell (b := w11.heap.size) (grown_setCell (grown_setCell (grown_setCell (grown_refl _ _) _ _) _ _) _ _) hn0_1 xc3_4, grown_cell (b := w11.heap.size) (grown_setCell (grown_setCell (grown_setCell (grown_refl _ _) _ _) _ _) _ _) hn0_1 xc3_5, grown_cell (b := w11.heap.size) (grown_setCell (grown_setCell (grown_setCell (grown_refl _ _) _ _) _ _) _ _) hn0_2 xc3_6, grown_cell (b := w11.heap.size) (grown_setCell (grown_setCell (grown_setCell (grown_refl _ _) _ _) _ _) _ _) hn0_2 xc3_7, grown_cell (b := w11.heap.size) (grown_setCell (grown_setCell (grown_setCell (grown_refl _ _) _ _) _ _) _ _) hn0_2 xc3_8⟩) | (with_reducible exact ⟨grown_cell (b := wc1.heap.size) (grown_setCell (grown_setCell (grown_setCell (grown_refl _ _) _ _) _ _) _ _) hn1_0 xc3_0, grown_cell (b := wc1.heap.size) (grown_setCell (grown_setCell (grown_setCell (grown_refl _ _) _ _) _ _) _ _) hn1_0 xc3_1, grown_cell (b := wc1.heap.size) (grown_setCell (grown_setCell (grown_setCell (grown_refl _ _) _ _) _ _) _ _) hn1_0 xc3_2, grown_cell (b := wc1.heap.size) (grown_setCell (grown_setCell (grown_setCell (grown_refl _ _) _ _) _ _) _ _) hn1_1 xc3_3, grown_cell (b := wc1.heap.size) (grown_setCell (grown_setCell (grown_setCell (grown_refl _ _) _ _) _ _) _ _) hn1_1 xc3_4, grown_cell (b := wc1.heap.size) (grown_setCell (grown_setCell (grown_setCell (grown_refl _ _) _ _) _ _) _ _) hn1_1 xc3_5, grown_cell (b := wc1.heap.size) (grown_setCell (grown_setCell (grown_setCell (grown_refl _ _) _ _) _ _) _ _) hn1_2 xc3_6, grown_cell (b := wc1.heap.size) (grown_setCell (grown_setCell (grown_setCell (grown_refl _ _) _ _) _ _) _ _) hn1_2 xc3_7, grown_cell (b := wc1.heap.size) (grown_setCell (grown_setCell (grown_setCell (grown_refl _ _) _ _) _ _) _ _) hn1_2 xc3_8⟩) | (with_reducible exact ⟨grown_cell (b := wc2.heap.size) (grown_setCell (grown_setCell (grown_setCell (grown_refl _ _) _ _) _ _) _ _) hn2_0 xc3_0, grown_cell (b := wc2.heap.size) (grown_setCell (grown_setCell (grown_setCell (grown_refl _ _) _ _) _ _) _ _) hn2_0 xc3_1, grown_cell (b := wc2.heap.size) (grown_setCell (grown_setCell (grown_setCell (grown_refl _ _) _ _) _ _) _ _) hn2_0 xc3_2, grown_cell (b := wc2.heap.size) (grown_setCell (grown_setCell (grown_setCell (grown_refl _ _) _ _) _ _) _ _) hn2_1 xc3_3, grown_cell (b := wc2.heap.size) (grown_setCell (grown_setCell (grown_setCell (grown_refl _ _) _ _) _ _) _ _) hn2_1 xc3_4, grown_cell (b := wc2.heap.size) (grown_setCell (grown_setCell (grown_setCell (grown_refl _ _) _ _) _ _) _ _) hn2_1 xc3_5, grown_cell (b := wc2.heap.size) (grown_setCell (grown_setCell (grown_setCell (grown_refl _ _) _ _) _ _) _ _) hn2_2 xc3_6, grown_cell (b := wc2.heap.size) (grown_setCell (grown_setCell (grown_setCell (grown_refl _ _) _ _) _ _) _ _) hn2_2 xc3_7, grown_cell (b := wc2.heap.size) (grown_setCell (grown_setCell (grown_setCell (grown_refl _ _) _ _) _ _) _ _) hn2_2 xc3_8⟩))
    refine wpAnyH_ready (rs := [9]) (by kernel_rfl) (by simp) ?_
    refine AllReadyH.cons rfl (fun Kc hKc => ?_) AllReadyH.nil
    go_simp; go_at_call 30
    (with_reducible refine (addTensors_any HR.out TSt.out TSu.out HP.out _ _ wc2 (os1.tens.ext ((Ext.refl wc1).trans hc2)) (os2.tens.ext (Ext.refl wc2))).mono ?_); rintro ec3 wc3 ⟨v3, rfl, oc, hc3⟩; have Ec3 : Ext w11 wc3 := Ec2.trans hc3; have xc3_0 := Ec3.cell ir0_11; have xc3_1 := Ec3.cell ir1_11; have xc3_2 := Ec3.cell ir2_11; have xc3_3 := Ec3.cell it0_11; have xc3_4 := Ec3.cell it1_11; have xc3_5 := Ec3.cell it2_11; have xc3_6 := Ec3.cell iu0_11; have xc3_7 := Ec3.cell iu1_11; have xc3_8 := Ec3.cell iu2_11; have hEc3s := Ec3.size; obtain ⟨cp1, cn1, cc1, cp2, cn2, cc2, cp3, cn3, cc3, rfl⟩ := oc.shape; have o4m := oc.mono (B' := w11.heap.size) (by omega); have hn3_0 : w1.heap.size ≠ wc3.heap.size := (by omega); have hn3_1 : w3.heap.size ≠ wc3.heap.size := (by omega); have hn3_2 : w5.heap.size ≠ wc3.heap.size := (by omega); have Y3 := Y2.ext hc3; have fb_0 := Y3.free 0; have yb_0 := Y3.cell (j := 0) rfl; have fb_1 := Y3.free 1; have yb_1 := Y3.cell (j := 1) rfl; have fb_2 := Y3.free 2; have yb_2 := Y3.cell (j := 2) rfl; have ylb := Y3.lt
    (try go_simp)
    refine hKc.out _ _ ?_ (fun hHeld => ?_) <;> clear hKc Kc
    · (first | (with_reducible exact ⟨D0.cell ir0_11, D0.cell ir1_11, D0.cell ir2_11, D0.cell it0_11, D0.cell it1_11, D0.cell it2_11, D0.cell iu0_11, D0.cell iu1_11, D0.cell iu2_11⟩) | (with_reducible exact ⟨(((Ext.refl w11).alloc _).drew).cell ir0_11, (((Ext.refl w11).alloc _).drew).cell ir1_11, (((Ext.refl w11).alloc _).drew).cell ir2_11, (((Ext.refl w11).alloc _).drew).cell it0_11, (((Ext.refl w11).alloc _).drew).cell it1_11, (((Ext.refl w11).alloc _).drew).cell it2_11, (((Ext.refl w11).alloc _).drew).cell iu0_11, (((Ext.refl w11).alloc _).drew).cell iu1_11, (((Ext.refl w11).alloc _).drew).cell iu2_11⟩) | (with_reducible exact ⟨xc1_0, xc1_1, xc1_2, xc1_3, xc1_4, xc1_5, xc1_6, xc1_7, xc1_8⟩) | (with_reducible exact ⟨(Ec1.alloc _).cell ir0_11, (Ec1.alloc _).cell ir1_11, (Ec1.alloc _).cell ir2_11, (Ec1.alloc _).cell it0_11, (Ec1.alloc _).cell it1_11, (Ec1.alloc _).cell it2_11, (Ec1.alloc _).cell iu0_11, (Ec1.alloc _).cell iu1_11, (Ec1.alloc _).cell iu2_11⟩) | (with_reducible exact ⟨xc2_0, xc2_1, xc2_2, xc2_3, xc2_4, xc2_5, xc2_6, xc2_7, xc2_8⟩) | (with_reducible exact ⟨(Ec2.alloc _).cell ir0_11, (Ec2.alloc _).cell ir1_11, (Ec2.alloc _).cell ir2_11, (Ec2.alloc _).cell it0_11, (Ec2.alloc _).cell it1_11, (Ec2.alloc _).cell it2_11, (Ec2.alloc _).cell iu0_11, (Ec2.alloc _).cell iu1_11, (Ec2.alloc _).cell iu2_11⟩) | (with_reducible exact ⟨xc3_0, xc3_1, xc3_2, xc3_3, xc3_4, xc3_5, xc3_6, xc3_7, xc3_8⟩) | (with_reducible exact ⟨(Ec3.alloc _).cell ir0_11, (Ec3.alloc _).cell ir1_11, (Ec3.alloc _).cell ir2_11, (Ec3.alloc _).cell it0_11, (Ec3.alloc _).cell it1_11, (Ec3.alloc _).cell it2_11, (Ec3.alloc _).cell iu0_11, (Ec3.alloc _).cell iu1_11, (Ec3.alloc _).cell iu2_11⟩) | (with_reducible exact ⟨grown_cell (b := w11.heap.size) (grown_setCell (grown_setCell (grown_setCell (grown_refl _ _) _ _) _ _) _ _) hn0_0 xc3_0, grown_cell (b := w11.heap.size) (grown_setCell (grown_setCell (grown_setCell (grown_refl _ _) _ _) _ _) _ _) hn0_0 xc3_1, grown_cell (b := w11.heap.size) (grown_setCell (grown_setCell (grown_setCell (grown_refl _ _) _ _) _ _) _ _) hn0_0 xc3_2, grown_cell (b := w11.heap.size) (grown_setCell (grown_setCell (grown_setCell (grown_refl _ _) _ _) _ _) _ _) hn0_1 xc3_3, grown_cell (b := w11.heap.size) (grown_setCell (grown_setCell (grown_setCell (grown_refl _ _) _ _) _ _) _ _) hn0_1 xc3_4, grown_cell (b := w11.heap.size) (grown_setCell (grown_setCell (grown_setCell (grown_refl _ _) _ _) _ _) _ _) hn0_1 xc3_5, grown_cell (b := w11.heap.size) (grown_setCell (grown_setCell (grown_setCell (grown_refl _ _) _ _) _ _) _ _) hn0_2 xc3_6, grown_cell (b := w11.heap.size) (grown_setCell (grown_setCell (grown_setCell (grown_refl _ _) _ _) _ _) _ _) hn0_2 xc3_7, grown_cell (b := w11.heap.size) (grown_setCell (grown_setCell (grown_setCell (grown_refl _ _) _ _) _ _) _ _) hn0_2 xc3_8⟩) | (with_reducible exact ⟨grown_cell (b := wc1.heap.size) (grown_setCell (grown_setCell (grown_setCell (grown_refl _ _) _ _) _ _) _ _) hn1_0 xc3_0, grown_cell (b := wc1.heap.size) (grown_setCell (grown_setCell (grown_setCell (grown_refl _ _) _ _) _ _) _ _) hn1_0 xc3_1, grown_cell (b := wc1.heap.size) (grown_setCell (grown_setCell (grown_setCell (grown_refl _ _) _ _) _ _) _ _) hn1_0 xc3_2, grown_cell (b := wc1.heap.size) (grown_setCell (grown_setCell (grown_setCell (grown_refl _ _) _ _) _ _) _ _) hn1_1 xc3_3, grown_cell (b := wc1.heap.size) (grown_setCell (grown_setCell (grown_setCell (grown_refl _ _) _ _) _ _) _ _) hn1_1 xc3_4, grown_cell (b := wc1.heap.size) (grown_setCell (grown_setCell (grown_setCell (grown_refl _ _) _ _) _ _) _ _) hn1_1 xc3_5, grown_cell (b := wc1.heap.size) (grown_setCell (grown_setCell (grown_setCell (grown_refl _ _) _ _) _ _) _ _) hn1_2 xc3_6, grown_cell (b := wc1.heap.size) (grown_setCell (grown_setCell (grown_setCell (grown_refl _ _) _ _) _ _) _ _) hn1_2 xc3_7, grown_cell (b := wc1.heap.size) (grown_setCell (grown_setCell (grown_setCell (grown_refl _ _) _ _) _ _) _ _) hn1_2 xc3_8⟩) | (with_reducible exact ⟨grown_cell (b := wc2.heap.size) (grown_setCell (grown_setCell (grown_setCell (grown_refl _ _) _ _) _ _) _ _) hn2_0 xc3_0, grown_cell (b := wc2.heap.size) (grown_setCell (grown_setCell (grown_setCell (grown_refl _ _) _ _) _ _) _ _) hn2_0 xc3_1, grown_cell (b := wc2.heap.size) (grown_setCell (grown_setCell (grown_setCell (grown_refl _ _) _ _) _ _) _ _) hn2_0 xc3_2, grown_cell (b := wc2.heap.size) (grown_setCell (grown_setCell (grown_setCell (grown_refl _ _) _ _) _ _) _ _) hn2_1 xc3_3, grown_cell (b := wc2.heap.size) (grown_setCell (grown_setCell (grown_setCell (grown_refl _ _) _ _) _ _) _ _) hn2_1 xc3_4, grown_cell (b := wc2.heap.size) (grown_setCell (grown_setCell (grown_setCell (grown_refl _ _) _ _) _ _) _ _) hn2_1 xc3_5, grown_cell (b := wc2.heap.size) (grown_setCell (grown_setCell (grown_setCell (grown_refl _ _) _ _) _ _) _ _) hn2_2 xc3_6, grown_cell (b := wc2.heap.size) (grown_setCell (grown_setCell (grown_setCell (grown_refl _ _) _ _) _ _) _ _) hn2_2 xc3_7, grown_cell (b := wc2.heap.size) (grown_setCell (grown_setCell (grown_setCell (grown_refl _ _) _ _) _ _) _ _) hn2_2 xc3_8⟩))
    refine wpAnyH_take (i := 10) (v := ?_) rfl (by kernel_rfl) (by kernel_rfl) (by kernel_rfl) (fun _ _ _ h => h) (Or.inl ⟨by rfl, ?_⟩) (by assumption) ?_
    rotate_left
    · intro w hSw; (try dsimp only at hSw); go_simp; (try with_reducible rfl)
    (try go_simp)
    refine wpAnyH_take (i := 11) (v := ?_) rfl (by kernel_rfl) (by kernel_rfl) (by kernel_rfl) (fun _ _ _ h => h) (Or.inl ⟨by rfl, ?_⟩) (by assumption) ?_
    rotate_left
    · intro w hSw; (try dsimp only at hSw); go_simp; (try with_reducible rfl)
    (try go_simp)
    refine wpAnyH_take (i := 12) (v := ?_) rfl (by kernel_rfl) (by kernel_rfl) (by kernel_rfl) (fun _ _ _ h => h) (Or.inl ⟨by rfl, ?_⟩) (by assumption) ?_
    rotate_left
    · intro w hSw; (try dsimp only at hSw); go_simp; (try with_reducible rfl)
    (try go_simp)
    refine wpAnyH_ready (rs := [14]) (by kernel_rfl) (by simp) ?_
    refine AllReadyH.cons rfl (fun Kc hKc => ?_) AllReadyH.nil
    go_simp
    refine hKc.out _ _ ?_ (fun hHeld => ?_) <;> clear hKc Kc
    · (first | (with_reducible exact ⟨D0.cell ir0_11, D0.cell ir1_11, D0.cell ir2_11, D0.cell it0_11, D0.cell it1_11, D0.cell it2_11, D0.cell iu0_11, D0.cell iu1_11, D0.cell iu2_11⟩) | (with_reducible exact ⟨(((Ext.refl w11).alloc _).drew).cell ir0_11, (((Ext.refl w11).alloc _).drew).cell ir1_11, (((Ext.refl w11).alloc _).drew).cell ir2_11, (((Ext.refl w11).alloc _).drew).cell it0_11, (((Ext.refl w11).alloc _).drew).cell it1_11, (((Ext.refl w11).alloc _).drew).cell it2_11, (((Ext.refl w11).alloc _).drew).cell iu0_11, (((Ext.refl w11).alloc _).drew).cell iu1_11, (((Ext.refl w11).alloc _).drew).cell iu2_11⟩) | (with_reducible exact ⟨xc1_0, xc1_1, xc1_2, xc1_3, xc1_4, xc1_5, xc1_6, xc1_7, xc1_8⟩) | (with_reducible exact ⟨(Ec1.alloc _).cell ir0_11, (Ec1.alloc _).cell ir1_11, (Ec1.alloc _).cell ir2_11, (Ec1.alloc _).cell it0_11, (Ec1.alloc _).cell it1_11, (Ec1.alloc _).cell it2_11, (Ec1.alloc _).cell iu0_11, (Ec1.alloc _).cell iu1_11, (Ec1.alloc _).cell iu2_11⟩) | (with_reducible exact ⟨xc2_0, xc2_1, xc2_2, xc2_3, xc2_4, xc2_5, xc2_6, xc2_7, xc2_8⟩) | (with_reducible exact ⟨(Ec2.alloc _).cell ir0_11, (Ec2.alloc _).cell ir1_11, (Ec2.alloc _).cell ir2_11, (Ec2.alloc _).cell it0_11, (Ec2.alloc _).cell it1_11, (Ec2.alloc _).cell it2_11, (Ec2.alloc _).cell iu0_11, (Ec2.alloc _).cell iu1_11, (Ec2.alloc _).cell iu2_11⟩) | (with_reducible exact ⟨xc3_0, xc3_1, xc3_2, xc3_3, xc3_4, xc3_5, xc3_6, xc3_7, xc3_8⟩) | (with_reducible exact ⟨(Ec3.alloc _).cell ir0_11, (Ec3.alloc _).cell ir1_11, (Ec3.alloc _).cell ir2_11, (Ec3.alloc _).cell it0_11, (Ec3.alloc _).cell it1_11, (Ec3.alloc _).cell it2_11, (Ec3.alloc _).cell iu0_11, (Ec3.alloc _).cell iu1_11, (Ec3.alloc _).cell iu2_11⟩) | (with_reducible exact ⟨grown_cell (b := w11.heap.size) (grown_setCell (grown_setCell (grown_setCell (grown_refl _ _) _ _) _ _) _ _) hn0_0 xc3_0, grown_cell (b := w11.heap.size) (grown_setCell (grown_setCell (grown_setCell (grown_refl _ _) _ _) _ _) _ _) hn0_0 xc3_1, grown_cell (b := w11.heap.size) (grown_setCell (grown_setCell (grown_setCell (grown_refl _ _) _ _) _ _) _ _) hn0_0 xc3_2, grown_cell (b := w11.heap.size) (grown_setCell (grown_setCell (grown_setCell (grown_refl _ _) _ _) _ _) _ _) hn0_1 xc3_3, grown_cell (b := w11.heap.size) (grown_setCell (grown_setCell (grown_setCell (grown_refl _ _) _ _) _ _) _ _) hn0_1 xc3_4, grown_cell (b := w11.heap.size) (grown_setCell (grown_setCell (grown_setCell (grown_refl _ _) _ _) _ _) _ _) hn0_1 xc3_5, grown_cell (b := w11.heap.size) (grown_setCell (grown_setCell (grown_setCell (grown_refl _ _) _ _) _ _) _ _) hn0_2 xc3_6, grown_cell (b := w11.heap.size) (grown_setCell (grown_setCell (grown_setCell (grown_refl _ _) _ _) _ _) _ _) hn0_2 xc3_7, grown_cell (b := w11.heap.size) (grown_setCell (grown_setCell (grown_setCell (grown_refl _ _) _ _) _ _) _ _) hn0_2 xc3_8⟩) | (with_reducible exact ⟨grown_cell (b := wc1.heap.size) (grown_setCell (grown_setCell (grown_setCell (grown_refl _ _) _ _) _ _) _ _) hn1_0 xc3_0, grown_cell (b := wc1.heap.size) (grown_setCell (grown_setCell (grown_setCell (grown_refl _ _) _ _) _ _) _ _) hn1_0 xc3_1, grown_cell (b := wc1.heap.size) (grown_setCell (grown_setCell (grown_setCell (grown_refl _ _) _ _) _ _) _ _) hn1_0 xc3_2, grown_cell (b := wc1.heap.size) (grown_setCell (grown_setCell (grown_setCell (grown_refl _ _) _ _) _ _) _ _) hn1_1 xc3_3, grown_cell (b := wc1.heap.size) (grown_setCell (grown_setCell (grown_setCell (grown_refl _ _) _ _) _ _) _ _) hn1_1 xc3_4, grown_cell (b := wc1.heap.size) (grown_setCell (grown_setCell (grown_setCell (grown_refl _ _) _ _) _ _) _ _) hn1_1 xc3_5, grown_cell (b := wc1.heap.size) (grown_setCell (grown_setCell (grown_setCell (grown_refl _ _) _ _) _ _) _ _) hn1_2 xc3_6, grown_cell (b := wc1.heap.size) (grown_setCell (grown_setCell (grown_setCell (grown_refl _ _) _ _) _ _) _ _) hn1_2 xc3_7, grown_cell (b := wc1.heap.size) (grown_setCell (grown_setCell (grown_setCell (grown_refl _ _) _ _) _ _) _ _) hn1_2 xc3_8⟩) | (with_reducible exact ⟨grown_cell (b := wc2.heap.size) (grown_setCell (grown_setCell (grown_setCell (grown_refl _ _) _ _) _ _) _ _) hn2_0 xc3_0, grown_cell (b := wc2.heap.size) (grown_setCell (grown_setCell (grown_setCell (grown_refl _ _) _ _) _ _) _ _) hn2_0 xc3_1, grown_cell (b := wc2.heap.size) (grown_setCell (grown_setCell (grown_setCell (grown_refl _ _) _ _) _ _) _ _) hn2_0 xc3_2, grown_cell (b := wc2.heap.size) (grown_setCell (grown_setCell (grown_setCell (grown_refl _ _) _ _) _ _) _ _) hn2_1 xc3_3, grown_cell (b := wc2.heap.size) (grown_setCell (grown_setCell (grown_setCell (grown_refl _ _) _ _) _ _) _ _) hn2_1 xc3_4, grown_cell (b := wc2.heap.size) (grown_setCell (grown_setCell (grown_setCell (grown_refl _ _) _ _) _ _) _ _) hn2_1 xc3_5, grown_cell (b := wc2.heap.size) (grown_setCell (grown_setCell (grown_setCell (grown_refl _ _) _ _) _ _) _ _) hn2_2 xc3_6, grown_cell (b := wc2.heap.size) (grown_setCell (grown_setCell (grown_setCell (grown_refl _ _) _ _) _ _) _ _) hn2_2 xc3_7, grown_cell (b := wc2.heap.size) (grown_setCell (grown_setCell (grown_setCell (grown_refl _ _) _ _) _ _) _ _) hn2_2 xc3_8⟩))
    refine wpAnyH_ready (rs := [15]) (by kernel_rfl) (by simp) ?_
    refine AllReadyH.cons rfl (fun Kc hKc => ?_) AllReadyH.nil
    go_simp
    refine hKc.out _ _ ?_ (fun hHeld => ?_) <;> clear hKc Kc
    · (first | (with_reducible exact ⟨D0.cell ir0_11, D0.cell ir1_11, D0.cell ir2_11, D0.cell it0_11, D0.cell it1_11, D0.cell it2_11, D0.cell iu0_11, D0.cell iu1_11, D0.cell iu2_11⟩) | (with_reducible exact ⟨(((Ext.refl w11).alloc _).drew).cell ir0_11, (((Ext.refl w11).alloc _).drew).cell ir1_11, (((Ext.refl w11).alloc _).drew).cell ir2_11, (((Ext.refl w11).alloc _).drew).cell it0_11, (((Ext.refl w11).alloc _).drew).cell it1_11, (((Ext.refl w11).alloc _).drew).cell it2_11, (((Ext.refl w11).alloc _).drew).cell iu0_11, (((Ext.refl w11).alloc _).drew).cell iu1_11, (((Ext.refl w11).alloc _).drew).cell iu2_11⟩) | (with_reducible exact ⟨xc1_0, xc1_1, xc1_2, xc1_3, xc1_4, xc1_5, xc1_6, xc1_7, xc1_8⟩) | (with_reducible exact ⟨(Ec1.alloc _).cell ir0_11, (Ec1.alloc _).cell ir1_11, (Ec1.alloc _).cell ir2_11, (Ec1.alloc _).cell it0_11, (Ec1.alloc _).cell it1_11, (Ec1.alloc _).cell it2_11, (Ec1.alloc _).cell iu0_11, (Ec1.alloc _).cell iu1_11, (Ec1.alloc _).cell iu2_11⟩) | (with_reducible exact ⟨xc2_0, xc2_1, xc2_2, xc2_3, xc2_4, xc2_5, xc2_6, xc2_7, xc2_8⟩) | (with_reducible exact ⟨(Ec2.alloc _).cell ir0_11, (Ec2.alloc _).cell ir1_11, (Ec2.alloc _).cell ir2_11, (Ec2.alloc _).cell it0_11, (Ec2.alloc _).cell it1_11, (Ec2.alloc _).cell it2_11, (Ec2.alloc _).cell iu0_11, (Ec2.alloc _).cell iu1_11, (Ec2.alloc _).cell iu2_11⟩) | (with_reducible exact ⟨xc3_0, xc3_1, xc3_2, xc3_3, xc3_4, xc3_5, xc3_6, xc3_7, xc3_8⟩) | (with_reducible exact ⟨(Ec3.alloc _).cell ir0_11, (Ec3.alloc _).cell ir1_11, (Ec3.alloc _).cell ir2_11, (Ec3.alloc _).cell it0_11, (Ec3.alloc _).cell it1_11, (Ec3.alloc _).cell it2_11, (Ec3.alloc _).cell iu0_11, (Ec3.alloc _).cell iu1_11, (Ec3.alloc _).cell iu2_11⟩) | (with_reducible exact ⟨grown_cell (b := w11.heap.size) (grown_setCell (grown_setCell (grown_setCell (grown_refl _ _) _ _) _ _) _ _) hn0_0 xc3_0, grown_cell (b := w11.heap.size) (grown_setCell (grown_setCell (grown_setCell (grown_refl _ _) _ _) _ _) _ _) hn0_0 xc3_1, grown_cell (b := w11.heap.size) (grown_setCell (grown_setCell (grown_setCell (grown_refl _ _) _ _) _ _) _ _) hn0_0 xc3_2, grown_cell (b := w11.heap.size) (grown_setCell (grown_setCell (grown_setCell (grown_refl _ _) _ _) _ _) _ _) hn0_1 xc3_3, grown_cell (b := w11.heap.size) (grown_setCell (grown_setCell (grown_setCell (grown_refl _ _) _ _) _ _) _ _) hn0_1 xc3_4, grown_cell (b := w11.heap.size) (grown_setCell (grown_setCell (grown_setCell (grown_refl _ _) _ _) _ _) _ _) hn0_1 xc3_5, grown_cell (b := w11.heap.size) (grown_setCell (grown_setCell (grown_setCell (grown_refl _ _) _ _) _ _) _ _) hn0_2 xc3_6, grown_cell (b := w11.heap.size) (grown_setCell (grown_setCell (grown_setCell (grown_refl _ _) _ _) _ _) _ _) hn0_2 xc3_7, grown_cell (b := w11.heap.size) (grown_setCell (grown_setCell (grown_setCell (grown_refl _ _) _ _) _ _) _ _) hn0_2 xc3_8⟩) | (with_reducible exact ⟨grown_cell (b := wc1.heap.size) (grown_setCell (grown_setCell (grown_setCell (grown_refl _ _) _ _) _ _) _ _) hn1_0 xc3_0, grown_cell (b := wc1.heap.size) (grown_setCell (grown_setCell (grown_setCell (grown_refl _ _) _ _) _ _) _ _) hn1_0 xc3_1, grown_cell (b := wc1.heap.size) (grown_setCell (grown_setCell (grown_setCell (grown_refl _ _) _ _) _ _) _ _) hn1_0 xc3_2, grown_cell (b := wc1.heap.size) (grown_setCell (grown_setCell (grown_setCell (grown_refl _ _) _ _) _ _) _ _) hn1_1 xc3_3, grown_cell (b := wc1.heap.size) (grown_setCell (grown_setCell (grown_setCell (grown_refl _ _) _ _) _ _) _ _) hn1_1 xc3_4, grown_cell (b := wc1.heap.size) (grown_setCell (grown_setCell (grown_setCell (grown_refl _ _) _ _) _ _) _ _) hn1_1 xc3_5, grown_cell (b := wc1.heap.size) (grown_setCell (grown_setCell (grown_setCell (grown_refl _ _) _ _) _ _) _ _) hn1_2 xc3_6, grown_cell (b := wc1.heap.size) (grown_setCell (grown_setCell (grown_setCell (grown_refl _ _) _ _) _ _) _ _) hn1_2 xc3_7, grown_cell (b := wc1.heap.size) (grown_setCell (grown_setCell (grown_setCell (grown_refl _ _) _ _) _ _) _ _) hn1_2 xc3_8⟩) | (with_reducible exact ⟨grown_cell (b := wc2.heap.size) (grown_setCell (grown_setCell (grown_setCell (grown_refl _ _) _ _) _ _) _ _) hn2_0 xc3_0, grown_cell (b := wc2.heap.size) (grown_setCell (grown_setCell (grown_setCell (grown_refl _ _) _ _) _ _) _ _) hn2_0 xc3_1, grown_cell (b := wc2.heap.size) (grown_setCell (grown_setCell (grown_setCell (grown_refl _ _) _ _) _ _) _ _) hn2_0 xc3_2, grown_cell (b := wc2.heap.size) (grown_setCell (grown_setCell (grown_setCell (grown_refl _ _) _ _) _ _) _ _) hn2_1 xc3_3, grown_cell (b := wc2.heap.size) (grown_setCell (grown_setCell (grown_setCell (grown_refl _ _) _ _) _ _) _ _) hn2_1 xc3_4, grown_cell (b := wc2.heap.size) (grown_setCell (grown_setCell (grown_setCell (grown_refl _ _) _ _) _ _) _ _) hn2_1 xc3_5, grown_cell (b := wc2.heap.size) (grown_setCell (grown_setCell (grown_setCell (grown_refl _ _) _ _) _ _) _ _) hn2_2 xc3_6, grown_cell (b := wc2.heap.size) (grown_setCell (grown_setCell (grown_setCell (grown_refl _ _) _ _) _ _) _ _) hn2_2 xc3_7, grown_cell (b := wc2.heap.size) (grown_setCell (grown_setCell (grown_setCell (grown_refl _ _) _ _) _ _) _ _) hn2_2 xc3_8⟩))
    refine wpAnyH_done (by kernel_rfl) ?_ _
    go_wp2_with fail
    go_meet
    exact ⟨w11.heap.size, cp1, cn1, cc1, cp2, cn2, cc2, cp3, cn3, cc3, rfl, rfl, ((Y3.set 0 (.slice cp1 cn1 cc1)).set 1 (.slice cp2 cn2 cc2)).set 2 (.slice cp3 cn3 cc3), ((Ec3.setAt (Nat.le_refl _) _ _).setAt (Nat.le_refl _) _ _).setAt (Nat.le_refl _) _ _, (((oc.setBelow (p := ⟨w11.heap.size, 0, none⟩) ltY2 _).setBelow (p := ⟨w11.heap.size, 1, none⟩) ltY2 _).setBelow (p := ⟨w11.heap.size, 2, none⟩) ltY2 _).mono (by omega)⟩
  obtain ⟨w12, rfl⟩ : ∃ x, x = wc := ⟨wc, rfl⟩
  obtain ⟨bu12, cp1, cn1, cc1, cp2, cn2, cc2, cp3, cn3, cc3, rfl, rfl, Bc12, h12, oc⟩ := hcut
  clear ir0_11 ir1_11 ir2_11 lr_11 it0_11 it1_11 it2_11 lt_11 iu0_11 iu1_11 iu2_11 lu_11 ia0_11 ia1_11 ia2_11 la_11 ib0_11 ib1_11 ib2_11 lb_11
  have Br12 := (Br11.ext h12)
  clear Br11
  have ir0_12 := Br12.cell (j := 0) rfl
  have ir1_12 := Br12.cell (j := 1) rfl
  have ir2_12 := Br12.cell (j := 2) rfl
  have lr_12 := Br12.lt
  have Bt12 := (Bt11.ext h12)
  clear Bt11
  have it0_12 := Bt12.cell (j := 0) rfl
  have it1_12 := Bt12.cell (j := 1) rfl
  have it2_12 := Bt12.cell (j := 2) rfl
  have lt_12 := Bt12.lt
  have Bu12 := (Bu11.ext h12)
  clear Bu11
  have iu0_12 := Bu12.cell (j := 0) rfl
  have iu1_12 := Bu12.cell (j := 1) rfl
  have iu2_12 := Bu12.cell (j := 2) rfl
  have lu_12 := Bu12.lt
  have Ba12 := (Ba11.ext h12)
  clear Ba11
  have ia0_12 := Ba12.cell (j := 0) rfl
  have ia1_12 := Ba12.cell (j := 1) rfl
  have ia2_12 := Ba12.cell (j := 2) rfl
  have la_12 := Ba12.lt
  have Bb12 := (Bb11.ext h12)
  clear Bb11
  have ib0_12 := Bb12.cell (j := 0) rfl
  have ib1_12 := Bb12.cell (j := 1) rfl
  have ib2_12 := Bb12.cell (j := 2) rfl
  have lb_12 := Bb12.lt
  have Bc12 := Bc12
  have ic0_12 := Bc12.cell (j := 0) rfl
  have ic1_12 := Bc12.cell (j := 1) rfl
  have ic2_12 := Bc12.cell (j := 2) rfl
  have lc_12 := Bc12.lt
  go_wp2_with fail
  refine (multiplyTensors_any HR.out Tt.out Tu.out HP.out _ _ _ (ot.tens.ext (h4.trans (h5.trans (h6.trans (h7.trans (h8.trans (h9.trans (h10.trans (h11.trans h12))))))))) (ou.tens.ext (h6.trans (h7.trans (h8.trans (h9.trans (h10.trans (h11.trans h12)))))))).mono ?_; rintro e13 w13 ⟨vd, rfl, od, h13⟩
  obtain ⟨dp1, dn1, dc1, dp2, dn2, dc2, dp3, dn3, dc3, rfl⟩ := od.shape
  clear ir0_12 ir1_12 ir2_12 lr_12 it0_12 it1_12 it2_12 lt_12 iu0_12 iu1_12 iu2_12 lu_12 ia0_12 ia1_12 ia2_12 la_12 ib0_12 ib1_12 ib2_12 lb_12 ic0_12 ic1_12 ic2_12 lc_12
  have Br13 := (Br12.ext h13)
  clear Br12
  have ir0_13 := Br13.cell (j := 0) rfl
  have ir1_13 := Br13.cell (j := 1) rfl
  have ir2_13 := Br13.cell (j := 2) rfl
  have lr_13 := Br13.lt
  have Bt13 := (Bt12.ext h13)
  clear Bt12
  have it0_13 := Bt13.cell (j := 0) rfl
  have it1_13 := Bt13.cell (j := 1) rfl
  have it2_13 := Bt13.cell (j := 2) rfl
  have lt_13 := Bt13.lt
  have Bu13 := (Bu12.ext h13)
  clear Bu12
  have iu0_13 := Bu13.cell (j := 0) rfl
  have iu1_13 := Bu13.cell (j := 1) rfl
  have iu2_13 := Bu13.cell (j := 2) rfl
  have lu_13 := Bu13.lt
  have Ba13 := (Ba12.ext h13)
  clear Ba12
  have ia0_13 := Ba13.cell (j := 0) rfl
  have ia1_13 := Ba13.cell (j := 1) rfl
  have ia2_13 := Ba13.cell (j := 2) rfl
  have la_13 := Ba13.lt
  have Bb13 := (Bb12.ext h13)
  clear Bb12
  have ib0_13 := Bb13.cell (j := 0) rfl
  have ib1_13 := Bb13.cell (j := 1) rfl
  have ib2_13 := Bb13.cell (j := 2) rfl
  have lb_13 := Bb13.lt
  have Bc13 := (Bc12.ext h13)
  clear Bc12
  have ic0_13 := Bc13.cell (j := 0) rfl
  have ic1_13 := Bc13.cell (j := 1) rfl
  have ic2_13 := Bc13.cell (j := 2) rfl
  have lc_13 := Bc13.lt
  go_wp2_with fail
  generalize hG14 : w13.alloc (.cells #[.slice dp1 dn1 dc1, .slice dp2 dn2 dc2, .slice dp3 dn3 dc3] 31) = w14
  have h14 : Ext w13 w14 := by rw [← hG14]; exact (Ext.refl _).alloc _
  have Bd14 : Blk w14 w13.heap.size 31 [.slice dp1 dn1 dc1, .slice dp2 dn2 dc2, .slice dp3 dn3 dc3] := by rw [← hG14]; exact Blk.new w13 #[.slice dp1 dn1 dc1, .slice dp2 dn2 dc2, .slice dp3 dn3 dc3] 31
  clear hG14
  clear ir0_13 ir1_13 ir2_13 lr_13 it0_13 it1_13 it2_13 lt_13 iu0_13 iu1_13 iu2_13 lu_13 ia0_13 ia1_13 ia2_13 la_13 ib0_13 ib1_13 ib2_13 lb_13 ic0_13 ic1_13 ic2_13 lc_13
  have Br14 := (Br13.ext h14)
  clear Br13
  have ir0_14 := Br14.cell (j := 0) rfl
  have ir1_14 := Br14.cell (j := 1) rfl
  have ir2_14 := Br14.cell (j := 2) rfl
  have lr_14 := Br14.lt
  have Bt14 := (Bt13.ext h14)
  clear Bt13
  have it0_14 := Bt14.cell (j := 0) rfl
  have it1_14 := Bt14.cell (j := 1) rfl
  have it2_14 := Bt14.cell (j := 2) rfl
  have lt_14 := Bt14.lt
  have Bu14 := (Bu13.ext h14)
  clear Bu13
  have iu0_14 := Bu14.cell (j := 0) rfl
  have iu1_14 := Bu14.cell (j := 1) rfl
  have iu2_14 := Bu14.cell (j := 2) rfl
  have lu_14 := Bu14.lt
  have Ba14 := (Ba13.ext h14)
  clear Ba13
  have ia0_14 := Ba14.cell (j := 0) rfl
  have ia1_14 := Ba14.cell (j := 1) rfl
  have ia2_14 := Ba14.cell (j := 2) rfl
  have la_14 := Ba14.lt
  have Bb14 := (Bb13.ext h14)
  clear Bb13
  have ib0_14 := Bb14.cell (j := 0) rfl
  have ib1_14 := Bb14.cell (j := 1) rfl
  have ib2_14 := Bb14.cell (j := 2) rfl
  have lb_14 := Bb14.lt
  have Bc14 := (Bc13.ext h14)
  clear Bc13
  have ic0_14 := Bc14.cell (j := 0) rfl
  have ic1_14 := Bc14.cell (j := 1) rfl
  have ic2_14 := Bc14.cell (j := 2) rfl
  have lc_14 := Bc14.lt
  have Bd14 := Bd14
  have id0_14 := Bd14.cell (j := 0) rfl
  have id1_14 := Bd14.cell (j := 1) rfl
  have id2_14 := Bd14.cell (j := 2) rfl
  have ld_14 := Bd14.lt
  refine (contractPair_any HR.out Tt.out Tu.out L _ _ _ _ (ot.tens.ext (h4.trans (h5.trans (h6.trans (h7.trans (h8.trans (h9.trans (h10.trans (h11.trans (h12.trans (h13.trans h14))))))))))) (ou.tens.ext (h6.trans (h7.trans (h8.trans (h9.trans (h10.trans (h11.trans (h12.trans (h13.trans h14))))))))) (ot.tens.ext (h4.trans (h5.trans (h6.trans (h7.trans (h8.trans (h9.trans (h10.trans (h11.trans (h12.trans (h13.trans h14))))))))))).labsP).mono ?_; rintro e15 w15 ⟨ve, rfl, oe, h15⟩
  obtain ⟨ep1, en1, ec1, ep2, en2, ec2, ep3, en3, ec3, rfl⟩ := oe.shape
  clear ir0_14 ir1_14 ir2_14 lr_14 it0_14 it1_14 it2_14 lt_14 iu0_14 iu1_14 iu2_14 lu_14 ia0_14 ia1_14 ia2_14 la_14 ib0_14 ib1_14 ib2_14 lb_14 ic0_14 ic1_14 ic2_14 lc_14 id0_14 id1_14 id2_14 ld_14
  have Br15 := (Br14.ext h15)
  clear Br14
  have ir0_15 := Br15.cell (j := 0) rfl
  have ir1_15 := Br15.cell (j := 1) rfl
  have ir2_15 := Br15.cell (j := 2) rfl
  have lr_15 := Br15.lt
  have Bt15 := (Bt14.ext h15)
  clear Bt14
  have it0_15 := Bt15.cell (j := 0) rfl
  have it1_15 := Bt15.cell (j := 1) rfl
  have it2_15 := Bt15.cell (j := 2) rfl
  have lt_15 := Bt15.lt
  have Bu15 := (Bu14.ext h15)
  clear Bu14
  have iu0_15 := Bu15.cell (j := 0) rfl
  have iu1_15 := Bu15.cell (j := 1) rfl
  have iu2_15 := Bu15.cell (j := 2) rfl
  have lu_15 := Bu15.lt
  have Ba15 := (Ba14.ext h15)
  clear Ba14
  have ia0_15 := Ba15.cell (j := 0) rfl
  have ia1_15 := Ba15.cell (j := 1) rfl
  have ia2_15 := Ba15.cell (j := 2) rfl
  have la_15 := Ba15.lt
  have Bb15 := (Bb14.ext h15)
  clear Bb14
  have ib0_15 := Bb15.cell (j := 0) rfl
  have ib1_15 := Bb15.cell (j := 1) rfl
  have ib2_15 := Bb15.cell (j := 2) rfl
  have lb_15 := Bb15.lt
  have Bc15 := (Bc14.ext h15)
  clear Bc14
  have ic0_15 := Bc15.cell (j := 0) rfl
  have ic1_15 := Bc15.cell (j := 1) rfl
  have ic2_15 := Bc15.cell (j := 2) rfl
  have lc_15 := Bc15.lt
  have Bd15 := (Bd14.ext h15)
  clear Bd14
  have id0_15 := Bd15.cell (j := 0) rfl
  have id1_15 := Bd15.cell (j := 1) rfl
  have id2_15 := Bd15.cell (j := 2) rfl
  have ld_15 := Bd15.lt
  go_wp2_with fail
  generalize hG16 : w15.alloc (.cells #[.slice ep1 en1 ec1, .slice ep2 en2 ec2, .slice ep3 en3 ec3] 31) = w16
  have h16 : Ext w15 w16 := by rw [← hG16]; exact (Ext.refl _).alloc _
  have Be16 : Blk w16 w15.heap.size 31 [.slice ep1 en1 ec1, .slice ep2 en2 ec2, .slice ep3 en3 ec3] := by rw [← hG16]; exact Blk.new w15 #[.slice ep1 en1 ec1, .slice ep2 en2 ec2, .slice ep3 en3 ec3] 31
  clear hG16
  clear ir0_15 ir1_15 ir2_15 lr_15 it0_15 it1_15 it2_15 lt_15 iu0_15 iu1_15 iu2_15 lu_15 ia0_15 ia1_15 ia2_15 la_15 ib0_15 ib1_15 ib2_15 lb_15 ic0_15 ic1_15 ic2_15 lc_15 id0_15 id1_15 id2_15 ld_15
  have Br16 := (Br15.ext h16)
  clear Br15
  have ir0_16 := Br16.cell (j := 0) rfl
  have ir1_16 := Br16.cell (j := 1) rfl
  have ir2_16 := Br16.cell (j := 2) rfl
  have lr_16 := Br16.lt
  have Bt16 := (Bt15.ext h16)
  clear Bt15
  have it0_16 := Bt16.cell (j := 0) rfl
  have it1_16 := Bt16.cell (j := 1) rfl
  have it2_16 := Bt16.cell (j := 2) rfl
  have lt_16 := Bt16.lt
  have Bu16 := (Bu15.ext h16)
  clear Bu15
  have iu0_16 := Bu16.cell (j := 0) rfl
  have iu1_16 := Bu16.cell (j := 1) rfl
  have iu2_16 := Bu16.cell (j := 2) rfl
  have lu_16 := Bu16.lt
  have Ba16 := (Ba15.ext h16)
  clear Ba15
  have ia0_16 := Ba16.cell (j := 0) rfl
  have ia1_16 := Ba16.cell (j := 1) rfl
  have ia2_16 := Ba16.cell (j := 2) rfl
  have la_16 := Ba16.lt
  have Bb16 := (Bb15.ext h16)
  clear Bb15
  have ib0_16 := Bb16.cell (j := 0) rfl
  have ib1_16 := Bb16.cell (j := 1) rfl
  have ib2_16 := Bb16.cell (j := 2) rfl
  have lb_16 := Bb16.lt
  have Bc16 := (Bc15.ext h16)
  clear Bc15
  have ic0_16 := Bc16.cell (j := 0) rfl
  have ic1_16 := Bc16.cell (j := 1) rfl
  have ic2_16 := Bc16.cell (j := 2) rfl
  have lc_16 := Bc16.lt
  have Bd16 := (Bd15.ext h16)
  clear Bd15
  have id0_16 := Bd16.cell (j := 0) rfl
  have id1_16 := Bd16.cell (j := 1) rfl
  have id2_16 := Bd16.cell (j := 2) rfl
  have ld_16 := Bd16.lt
  have Be16 := Be16
  have ie0_16 := Be16.cell (j := 0) rfl
  have ie1_16 := Be16.cell (j := 1) rfl
  have ie2_16 := Be16.cell (j := 2) rfl
  have le_16 := Be16.lt
  refine (zeroT_any HR.out Tt.out.uni Tt.out.sub _ _ _ (ot.tens.ext (h4.trans (h5.trans (h6.trans (h7.trans (h8.trans (h9.trans (h10.trans (h11.trans (h12.trans (h13.trans (h14.trans (h15.trans h16))))))))))))).labsP (ot.tens.ext (h4.trans (h5.trans (h6.trans (h7.trans (h8.trans (h9.trans (h10.trans (h11.trans (h12.trans (h13.trans (h14.trans (h15.trans h16))))))))))))).dimsP).mono ?_; rintro e17 w17 ⟨vz, rfl, oz, h17⟩
  obtain ⟨zp1, zn1, zc1, zp2, zn2, zc2, zp3, zn3, zc3, rfl⟩ := oz.shape
  clear ir0_16 ir1_16 ir2_16 lr_16 it0_16 it1_16 it2_16 lt_16 iu0_16 iu1_16 iu2_16 lu_16 ia0_16 ia1_16 ia2_16 la_16 ib0_16 ib1_16 ib2_16 lb_16 ic0_16 ic1_16 ic2_16 lc_16 id0_16 id1_16 id2_16 ld_16 ie0_16 ie1_16 ie2_16 le_16
  have Br17 := (Br16.ext h17)
  clear Br16
  have ir0_17 := Br17.cell (j := 0) rfl
  have ir1_17 := Br17.cell (j := 1) rfl
  have ir2_17 := Br17.cell (j := 2) rfl
  have lr_17 := Br17.lt
  have Bt17 := (Bt16.ext h17)
  clear Bt16
  have it0_17 := Bt17.cell (j := 0) rfl
  have it1_17 := Bt17.cell (j := 1) rfl
  have it2_17 := Bt17.cell (j := 2) rfl
  have lt_17 := Bt17.lt
  have Bu17 := (Bu16.ext h17)
  clear Bu16
  have iu0_17 := Bu17.cell (j := 0) rfl
  have iu1_17 := Bu17.cell (j := 1) rfl
  have iu2_17 := Bu17.cell (j := 2) rfl
  have lu_17 := Bu17.lt
  have Ba17 := (Ba16.ext h17)
  clear Ba16
  have ia0_17 := Ba17.cell (j := 0) rfl
  have ia1_17 := Ba17.cell (j := 1) rfl
  have ia2_17 := Ba17.cell (j := 2) rfl
  have la_17 := Ba17.lt
  have Bb17 := (Bb16.ext h17)
  clear Bb16
  have ib0_17 := Bb17.cell (j := 0) rfl
  have ib1_17 := Bb17.cell (j := 1) rfl
  have ib2_17 := Bb17.cell (j := 2) rfl
  have lb_17 := Bb17.lt
  have Bc17 := (Bc16.ext h17)
  clear Bc16
  have ic0_17 := Bc17.cell (j := 0) rfl
  have ic1_17 := Bc17.cell (j := 1) rfl
  have ic2_17 := Bc17.cell (j := 2) rfl
  have lc_17 := Bc17.lt
  have Bd17 := (Bd16.ext h17)
  clear Bd16
  have id0_17 := Bd17.cell (j := 0) rfl
  have id1_17 := Bd17.cell (j := 1) rfl
  have id2_17 := Bd17.cell (j := 2) rfl
  have ld_17 := Bd17.lt
  have Be17 := (Be16.ext h17)
  clear Be16
  have ie0_17 := Be17.cell (j := 0) rfl
  have ie1_17 := Be17.cell (j := 1) rfl
  have ie2_17 := Be17.cell (j := 2) rfl
  have le_17 := Be17.lt
  go_wp2_with fail
  generalize hG18 : w17.alloc (.cells #[.slice zp1 zn1 zc1, .slice zp2 zn2 zc2, .slice zp3 zn3 zc3] 31) = w18
  have h18 : Ext w17 w18 := by rw [← hG18]; exact (Ext.refl _).alloc _
  have Bz18 : Blk w18 w17.heap.size 31 [.slice zp1 zn1 zc1, .slice zp2 zn2 zc2, .slice zp3 zn3 zc3] := by rw [← hG18]; exact Blk.new w17 #[.slice zp1 zn1 zc1, .slice zp2 zn2 zc2, .slice zp3 zn3 zc3] 31
  clear hG18
  clear ir0_17 ir1_17 ir2_17 lr_17 it0_17 it1_17 it2_17 lt_17 iu0_17 iu1_17 iu2_17 lu_17 ia0_17 ia1_17 ia2_17 la_17 ib0_17 ib1_17 ib2_17 lb_17 ic0_17 ic1_17 ic2_17 lc_17 id0_17 id1_17 id2_17 ld_17 ie0_17 ie1_17 ie2_17 le_17
  have Br18 := (Br17.ext h18)
  clear Br17
  have ir0_18 := Br18.cell (j := 0) rfl
  have ir1_18 := Br18.cell (j := 1) rfl
  have ir2_18 := Br18.cell (j := 2) rfl
  have lr_18 := Br18.lt
  have Bt18 := (Bt17.ext h18)
  clear Bt17
  have it0_18 := Bt18.cell (j := 0) rfl
  have it1_18 := Bt18.cell (j := 1) rfl
  have it2_18 := Bt18.cell (j := 2) rfl
  have lt_18 := Bt18.lt
  have Bu18 := (Bu17.ext h18)
  clear Bu17
  have iu0_18 := Bu18.cell (j := 0) rfl
  have iu1_18 := Bu18.cell (j := 1) rfl
  have iu2_18 := Bu18.cell (j := 2) rfl
  have lu_18 := Bu18.lt
  have Ba18 := (Ba17.ext h18)
  clear Ba17
  have ia0_18 := Ba18.cell (j := 0) rfl
  have ia1_18 := Ba18.cell (j := 1) rfl
  have ia2_18 := Ba18.cell (j := 2) rfl
  have la_18 := Ba18.lt
  have Bb18 := (Bb17.ext h18)
  clear Bb17
  have ib0_18 := Bb18.cell (j := 0) rfl
  have ib1_18 := Bb18.cell (j := 1) rfl
  have ib2_18 := Bb18.cell (j := 2) rfl
  have lb_18 := Bb18.lt
  have Bc18 := (Bc17.ext h18)
  clear Bc17
  have ic0_18 := Bc18.cell (j := 0) rfl
  have ic1_18 := Bc18.cell (j := 1) rfl
  have ic2_18 := Bc18.cell (j := 2) rfl
  have lc_18 := Bc18.lt
  have Bd18 := (Bd17.ext h18)
  clear Bd17
  have id0_18 := Bd18.cell (j := 0) rfl
  have id1_18 := Bd18.cell (j := 1) rfl
  have id2_18 := Bd18.cell (j := 2) rfl
  have ld_18 := Bd18.lt
  have Be18 := (Be17.ext h18)
  clear Be17
  have ie0_18 := Be18.cell (j := 0) rfl
  have ie1_18 := Be18.cell (j := 1) rfl
  have ie2_18 := Be18.cell (j := 2) rfl
  have le_18 := Be18.lt
  have Bz18 := Bz18
  have iz0_18 := Bz18.cell (j := 0) rfl
  have iz1_18 := Bz18.cell (j := 1) rfl
  have iz2_18 := Bz18.cell (j := 2) rfl
  have lz_18 := Bz18.lt
  have TZ := Lib.hid (zero_isT HR.out Tt.out.uni Tt.out.sub)
  refine (addTensors_any HR.out TZ.out Tt.out (List.Perm.refl L) _ _ _ (oz.tens.ext h18) (ot.tens.ext (h4.trans (h5.trans (h6.trans (h7.trans (h8.trans (h9.trans (h10.trans (h11.trans (h12.trans (h13.trans (h14.trans (h15.trans (h16.trans (h17.trans h18)))))))))))))))).mono ?_; rintro e19 w19 ⟨vf, rfl, of, h19⟩
  obtain ⟨fp1, fn1, fc1, fp2, fn2, fc2, fp3, fn3, fc3, rfl⟩ := of.shape
  clear ir0_18 ir1_18 ir2_18 lr_18 it0_18 it1_18 it2_18 lt_18 iu0_18 iu1_18 iu2_18 lu_18 ia0_18 ia1_18 ia2_18 la_18 ib0_18 ib1_18 ib2_18 lb_18 ic0_18 ic1_18 ic2_18 lc_18 id0_18 id1_18 id2_18 ld_18 ie0_18 ie1_18 ie2_18 le_18 iz0_18 iz1_18 iz2_18 lz_18
  have Br19 := (Br18.ext h19)
  clear Br18
  have ir0_19 := Br19.cell (j := 0) rfl
  have ir1_19 := Br19.cell (j := 1) rfl
  have ir2_19 := Br19.cell (j := 2) rfl
  have lr_19 := Br19.lt
  have Bt19 := (Bt18.ext h19)
  clear Bt18
  have it0_19 := Bt19.cell (j := 0) rfl
  have it1_19 := Bt19.cell (j := 1) rfl
  have it2_19 := Bt19.cell (j := 2) rfl
  have lt_19 := Bt19.lt
  have Bu19 := (Bu18.ext h19)
  clear Bu18
  have iu0_19 := Bu19.cell (j := 0) rfl
  have iu1_19 := Bu19.cell (j := 1) rfl
  have iu2_19 := Bu19.cell (j := 2) rfl
  have lu_19 := Bu19.lt
  have Ba19 := (Ba18.ext h19)
  clear Ba18
  have ia0_19 := Ba19.cell (j := 0) rfl
  have ia1_19 := Ba19.cell (j := 1) rfl
  have ia2_19 := Ba19.cell (j := 2) rfl
  have la_19 := Ba19.lt
  have Bb19 := (Bb18.ext h19)
  clear Bb18
  have ib0_19 := Bb19.cell (j := 0) rfl
  have ib1_19 := Bb19.cell (j := 1) rfl
  have ib2_19 := Bb19.cell (j := 2) rfl
  have lb_19 := Bb19.lt
  have Bc19 := (Bc18.ext h19)
  clear Bc18
  have ic0_19 := Bc19.cell (j := 0) rfl
  have ic1_19 := Bc19.cell (j := 1) rfl
  have ic2_19 := Bc19.cell (j := 2) rfl
  have lc_19 := Bc19.lt
  have Bd19 := (Bd18.ext h19)
  clear Bd18
  have id0_19 := Bd19.cell (j := 0) rfl
  have id1_19 := Bd19.cell (j := 1) rfl
  have id2_19 := Bd19.cell (j := 2) rfl
  have ld_19 := Bd19.lt
  have Be19 := (Be18.ext h19)
  clear Be18
  have ie0_19 := Be19.cell (j := 0) rfl
  have ie1_19 := Be19.cell (j := 1) rfl
  have ie2_19 := Be19.cell (j := 2) rfl
  have le_19 := Be19.lt
  have Bz19 := (Bz18.ext h19)
  clear Bz18
  have iz0_19 := Bz19.cell (j := 0) rfl
  have iz1_19 := Bz19.cell (j := 1) rfl
  have iz2_19 := Bz19.cell (j := 2) rfl
  have lz_19 := Bz19.lt
  go_wp2_with fail
  generalize hG20 : w19.alloc (.cells #[.slice fp1 fn1 fc1, .slice fp2 fn2 fc2, .slice fp3 fn3 fc3] 31) = w20
  have h20 : Ext w19 w20 := by rw [← hG20]; exact (Ext.refl _).alloc _
  have Bf20 : Blk w20 w19.heap.size 31 [.slice fp1 fn1 fc1, .slice fp2 fn2 fc2, .slice fp3 fn3 fc3] := by rw [← hG20]; exact Blk.new w19 #[.slice fp1 fn1 fc1, .slice fp2 fn2 fc2, .slice fp3 fn3 fc3] 31
  clear hG20
  clear ir0_19 ir1_19 ir2_19 lr_19 it0_19 it1_19 it2_19 lt_19 iu0_19 iu1_19 iu2_19 lu_19 ia0_19 ia1_19 ia2_19 la_19 ib0_19 ib1_19 ib2_19 lb_19 ic0_19 ic1_19 ic2_19 lc_19 id0_19 id1_19 id2_19 ld_19 ie0_19 ie1_19 ie2_19 le_19 iz0_19 iz1_19 iz2_19 lz_19
  have Br20 := (Br19.ext h20)
  clear Br19
  have ir0_20 := Br20.cell (j := 0) rfl
  have ir1_20 := Br20.cell (j := 1) rfl
  have ir2_20 := Br20.cell (j := 2) rfl
  have lr_20 := Br20.lt
  have Bt20 := (Bt19.ext h20)
  clear Bt19
  have it0_20 := Bt20.cell (j := 0) rfl
  have it1_20 := Bt20.cell (j := 1) rfl
  have it2_20 := Bt20.cell (j := 2) rfl
  have lt_20 := Bt20.lt
  have Bu20 := (Bu19.ext h20)
  clear Bu19
  have iu0_20 := Bu20.cell (j := 0) rfl
  have iu1_20 := Bu20.cell (j := 1) rfl
  have iu2_20 := Bu20.cell (j := 2) rfl
  have lu_20 := Bu20.lt
  have Ba20 := (Ba19.ext h20)
  clear Ba19
  have ia0_20 := Ba20.cell (j := 0) rfl
  have ia1_20 := Ba20.cell (j := 1) rfl
  have ia2_20 := Ba20.cell (j := 2) rfl
  have la_20 := Ba20.lt
  have Bb20 := (Bb19.ext h20)
  clear Bb19
  have ib0_20 := Bb20.cell (j := 0) rfl
  have ib1_20 := Bb20.cell (j := 1) rfl
  have ib2_20 := Bb20.cell (j := 2) rfl
  have lb_20 := Bb20.lt
  have Bc20 := (Bc19.ext h20)
  clear Bc19
  have ic0_20 := Bc20.cell (j := 0) rfl
  have ic1_20 := Bc20.cell (j := 1) rfl
  have ic2_20 := Bc20.cell (j := 2) rfl
  have lc_20 := Bc20.lt
  have Bd20 := (Bd19.ext h20)
  clear Bd19
  have id0_20 := Bd20.cell (j := 0) rfl
  have id1_20 := Bd20.cell (j := 1) rfl
  have id2_20 := Bd20.cell (j := 2) rfl
  have ld_20 := Bd20.lt
  have Be20 := (Be19.ext h20)
  clear Be19
  have ie0_20 := Be20.cell (j := 0) rfl
  have ie1_20 := Be20.cell (j := 1) rfl
  have ie2_20 := Be20.cell (j := 2) rfl
  have le_20 := Be20.lt
  have Bz20 := (Bz19.ext h20)
  clear Bz19
  have iz0_20 := Bz20.cell (j := 0) rfl
  have iz1_20 := Bz20.cell (j := 1) rfl
  have iz2_20 := Bz20.cell (j := 2) rfl
  have lz_20 := Bz20.lt
  have Bf20 := Bf20
  have if0_20 := Bf20.cell (j := 0) rfl
  have if1_20 := Bf20.cell (j := 1) rfl
  have if2_20 := Bf20.cell (j := 2) rfl
  have lf_20 := Bf20.lt
  have HS := Lib.hid (add_sort HR.out Tt.out Tu.out HP.out)
  have HSC := Lib.hid (scale_add HR.out (dm := dimOf) (L := L) (M := M) xe xs ys)
  have HMC := Lib.hid (mul_contr HR.out Tt.out Tu.out HP.out)
  have HZA := Lib.hid (addXs_len HR.out Tt.out)
  go_upto_region 14 with fail
  try simp only [List.append]
  have h21 : Ext w20 w20.drew := (Ext.refl _).drew
  go_region_held3 (fun w' => w'.cell? ⟨w1.heap.size, 0, none⟩ = some (.int .i64 k) ∧ w'.cell? ⟨w1.heap.size, 1, none⟩ = some (.int .i64 p) ∧ w'.cell? ⟨w1.heap.size, 2, none⟩ = some (.int .i64 n) ∧ w'.cell? ⟨w3.heap.size, 0, none⟩ = some (.slice tp1 tn1 tc1) ∧ w'.cell? ⟨w3.heap.size, 1, none⟩ = some (.slice tp2 tn2 tc2) ∧ w'.cell? ⟨w3.heap.size, 2, none⟩ = some (.slice tp3 tn3 tc3) ∧ w'.cell? ⟨w8.heap.size, 0, none⟩ = some (.slice ap1 an1 ac1) ∧ w'.cell? ⟨w8.heap.size, 1, none⟩ = some (.slice ap2 an2 ac2) ∧ w'.cell? ⟨w8.heap.size, 2, none⟩ = some (.slice ap3 an3 ac3) ∧ w'.cell? ⟨w10.heap.size, 0, none⟩ = some (.slice bp1 bn1 bc1) ∧ w'.cell? ⟨w10.heap.size, 1, none⟩ = some (.slice bp2 bn2 bc2) ∧ w'.cell? ⟨w10.heap.size, 2, none⟩ = some (.slice bp3 bn3 bc3) ∧ w'.cell? ⟨bu12, 0, none⟩ = some (.slice cp1 cn1 cc1) ∧ w'.cell? ⟨bu12, 1, none⟩ = some (.slice cp2 cn2 cc2) ∧ w'.cell? ⟨bu12, 2, none⟩ = some (.slice cp3 cn3 cc3) ∧ w'.cell? ⟨w13.heap.size, 0, none⟩ = some (.slice dp1 dn1 dc1) ∧ w'.cell? ⟨w13.heap.size, 1, none⟩ = some (.slice dp2 dn2 dc2) ∧ w'.cell? ⟨w13.heap.size, 2, none⟩ = some (.slice dp3 dn3 dc3) ∧ w'.cell? ⟨w15.heap.size, 0, none⟩ = some (.slice ep1 en1 ec1) ∧ w'.cell? ⟨w15.heap.size, 1, none⟩ = some (.slice ep2 en2 ec2) ∧ w'.cell? ⟨w15.heap.size, 2, none⟩ = some (.slice ep3 en3 ec3) ∧ w'.cell? ⟨w19.heap.size, 0, none⟩ = some (.slice fp1 fn1 fc1) ∧ w'.cell? ⟨w19.heap.size, 1, none⟩ = some (.slice fp2 fn2 fc2) ∧ w'.cell? ⟨w19.heap.size, 2, none⟩ = some (.slice fp3 fn3 fc3))
    (refine ⟨?_, ?_, ?_, ?_, ?_, ?_, ?_, ?_, ?_, ?_, ?_, ?_, ?_, ?_, ?_, ?_, ?_, ?_, ?_, ?_, ?_, ?_, ?_, ?_⟩ <;> first | (with_reducible assumption) | exact ((Ext.refl _).drew).cell (by with_reducible assumption) | exact ((Ext.refl _).alloc _).cell (by with_reducible assumption) | (simp [*]; done))
    (first | (go_at_call 18; (with_reducible refine (sameTensor_yes HR.out TA.out TB.out HS.out.1 HS.out.2 _ _ w20.drew (oa.tens.ext (h9.trans (h10.trans (h11.trans (h12.trans (h13.trans (h14.trans (h15.trans (h16.trans (h17.trans (h18.trans (h19.trans (h20.trans h21))))))))))))) (ob.tens.ext (h11.trans (h12.trans (h13.trans (h14.trans (h15.trans (h16.trans (h17.trans (h18.trans (h19.trans (h20.trans h21)))))))))))).mono ?_); rintro e22 w22 ⟨rfl, h22⟩; have c22_0 := (h21.trans h22).cell ir0_20; have c22_1 := (h21.trans h22).cell ir1_20; have c22_2 := (h21.trans h22).cell ir2_20; have c22_3 := (h21.trans h22).cell it0_20; have c22_4 := (h21.trans h22).cell it1_20; have c22_5 := (h21.trans h22).cell it2_20; have c22_6 := (h21.trans h22).cell ia0_20; have c22_7 := (h21.trans h22).cell ia1_20; have c22_8 := (h21.trans h22).cell ia2_20; have c22_9 := (h21.trans h22).cell ib0_20; have c22_10 := (h21.trans h22).cell ib1_20; have c22_11 := (h21.trans h22).cell ib2_20; have c22_12 := (h21.trans h22).cell ic0_20; have c22_13 := (h21.trans h22).cell ic1_20; have c22_14 := (h21.trans h22).cell ic2_20; have c22_15 := (h21.trans h22).cell id0_20; have c22_16 := (h21.trans h22).cell id1_20; have c22_17 := (h21.trans h22).cell id2_20; have c22_18 := (h21.trans h22).cell ie0_20; have c22_19 := (h21.trans h22).cell ie1_20; have c22_20 := (h21.trans h22).cell ie2_20; have c22_21 := (h21.trans h22).cell if0_20; have c22_22 := (h21.trans h22).cell if1_20; have c22_23 := (h21.trans h22).cell if2_20) | (go_at_call 31; (with_reducible refine (scaleTensor_any HR.out TA.out xe _ _ w22 (oa.tens.ext (h9.trans (h10.trans (h11.trans (h12.trans (h13.trans (h14.trans (h15.trans (h16.trans (h17.trans (h18.trans (h19.trans (h20.trans (h21.trans h22)))))))))))))) (ox.ints.ext (h8.trans (h9.trans (h10.trans (h11.trans (h12.trans (h13.trans (h14.trans (h15.trans (h16.trans (h17.trans (h18.trans (h19.trans (h20.trans (h21.trans h22)))))))))))))))).mono ?_); rintro e23 w23 ⟨vq, rfl, oq, h23⟩; obtain ⟨qqp1, qqn1, qqc1, qqp2, qqn2, qqc2, qqp3, qqn3, qqc3, rfl⟩ := oq.shape; have c23_0 := (h21.trans (h22.trans h23)).cell ir0_20; have c23_1 := (h21.trans (h22.trans h23)).cell ir1_20; have c23_2 := (h21.trans (h22.trans h23)).cell ir2_20; have c23_3 := (h21.trans (h22.trans h23)).cell it0_20; have c23_4 := (h21.trans (h22.trans h23)).cell it1_20; have c23_5 := (h21.trans (h22.trans h23)).cell it2_20; have c23_6 := (h21.trans (h22.trans h23)).cell ia0_20; have c23_7 := (h21.trans (h22.trans h23)).cell ia1_20; have c23_8 := (h21.trans (h22.trans h23)).cell ia2_20; have c23_9 := (h21.trans (h22.trans h23)).cell ib0_20; have c23_10 := (h21.trans (h22.trans h23)).cell ib1_20; have c23_11 := (h21.trans (h22.trans h23)).cell ib2_20; have c23_12 := (h21.trans (h22.trans h23)).cell ic0_20; have c23_13 := (h21.trans (h22.trans h23)).cell ic1_20; have c23_14 := (h21.trans (h22.trans h23)).cell ic2_20; have c23_15 := (h21.trans (h22.trans h23)).cell id0_20; have c23_16 := (h21.trans (h22.trans h23)).cell id1_20; have c23_17 := (h21.trans (h22.trans h23)).cell id2_20; have c23_18 := (h21.trans (h22.trans h23)).cell ie0_20; have c23_19 := (h21.trans (h22.trans h23)).cell ie1_20; have c23_20 := (h21.trans (h22.trans h23)).cell ie2_20; have c23_21 := (h21.trans (h22.trans h23)).cell if0_20; have c23_22 := (h21.trans (h22.trans h23)).cell if1_20; have c23_23 := (h21.trans (h22.trans h23)).cell if2_20) | (go_at_call 16; (with_reducible refine (same_same _ _ _ _ _ _ _ _ w23 oq.tens (oc.tens.ext (h13.trans (h14.trans (h15.trans (h16.trans (h17.trans (h18.trans (h19.trans (h20.trans (h21.trans (h22.trans h23))))))))))) rfl rfl (by rw [HSC.out])).mono ?_); rintro e24 w24 ⟨rfl, h24⟩; have c24_0 := (h21.trans (h22.trans (h23.trans h24))).cell ir0_20; have c24_1 := (h21.trans (h22.trans (h23.trans h24))).cell ir1_20; have c24_2 := (h21.trans (h22.trans (h23.trans h24))).cell ir2_20; have c24_3 := (h21.trans (h22.trans (h23.trans h24))).cell it0_20; have c24_4 := (h21.trans (h22.trans (h23.trans h24))).cell it1_20; have c24_5 := (h21.trans (h22.trans (h23.trans h24))).cell it2_20; have c24_6 := (h21.trans (h22.trans (h23.trans h24))).cell ia0_20; have c24_7 := (h21.trans (h22.trans (h23.trans h24))).cell ia1_20; have c24_8 := (h21.trans (h22.trans (h23.trans h24))).cell ia2_20; have c24_9 := (h21.trans (h22.trans (h23.trans h24))).cell ib0_20; have c24_10 := (h21.trans (h22.trans (h23.trans h24))).cell ib1_20; have c24_11 := (h21.trans (h22.trans (h23.trans h24))).cell ib2_20; have c24_12 := (h21.trans (h22.trans (h23.trans h24))).cell ic0_20; have c24_13 := (h21.trans (h22.trans (h23.trans h24))).cell ic1_20; have c24_14 := (h21.trans (h22.trans (h23.trans h24))).cell ic2_20; have c24_15 := (h21.trans (h22.trans (h23.trans h24))).cell id0_20; have c24_16 := (h21.trans (h22.trans (h23.trans h24))).cell id1_20; have c24_17 := (h21.trans (h22.trans (h23.trans h24))).cell id2_20; have c24_18 := (h21.trans (h22.trans (h23.trans h24))).cell ie0_20; have c24_19 := (h21.trans (h22.trans (h23.trans h24))).cell ie1_20; have c24_20 := (h21.trans (h22.trans (h23.trans h24))).cell ie2_20; have c24_21 := (h21.trans (h22.trans (h23.trans h24))).cell if0_20; have c24_22 := (h21.trans (h22.trans (h23.trans h24))).cell if1_20; have c24_23 := (h21.trans (h22.trans (h23.trans h24))).cell if2_20) | (go_at_call 16; (with_reducible refine (same_same _ _ _ _ _ _ _ _ w24 (od.tens.ext (h14.trans (h15.trans (h16.trans (h17.trans (h18.trans (h19.trans (h20.trans (h21.trans (h22.trans (h23.trans h24))))))))))) (oe.tens.ext (h16.trans (h17.trans (h18.trans (h19.trans (h20.trans (h21.trans (h22.trans (h23.trans h24))))))))) HMC.out.1.symm (by rw [HMC.out.1]) (by rw [HMC.out.2])).mono ?_); rintro e25 w25 ⟨rfl, h25⟩; have c25_0 := (h21.trans (h22.trans (h23.trans (h24.trans h25)))).cell ir0_20; have c25_1 := (h21.trans (h22.trans (h23.trans (h24.trans h25)))).cell ir1_20; have c25_2 := (h21.trans (h22.trans (h23.trans (h24.trans h25)))).cell ir2_20; have c25_3 := (h21.trans (h22.trans (h23.trans (h24.trans h25)))).cell it0_20; have c25_4 := (h21.trans (h22.trans (h23.trans (h24.trans h25)))).cell it1_20; have c25_5 := (h21.trans (h22.trans (h23.trans (h24.trans h25)))).cell it2_20; have c25_6 := (h21.trans (h22.trans (h23.trans (h24.trans h25)))).cell ia0_20; have c25_7 := (h21.trans (h22.trans (h23.trans (h24.trans h25)))).cell ia1_20; have c25_8 := (h21.trans (h22.trans (h23.trans (h24.trans h25)))).cell ia2_20; have c25_9 := (h21.trans (h22.trans (h23.trans (h24.trans h25)))).cell ib0_20; have c25_10 := (h21.trans (h22.trans (h23.trans (h24.trans h25)))).cell ib1_20; have c25_11 := (h21.trans (h22.trans (h23.trans (h24.trans h25)))).cell ib2_20; have c25_12 := (h21.trans (h22.trans (h23.trans (h24.trans h25)))).cell ic0_20; have c25_13 := (h21.trans (h22.trans (h23.trans (h24.trans h25)))).cell ic1_20; have c25_14 := (h21.trans (h22.trans (h23.trans (h24.trans h25)))).cell ic2_20; have c25_15 := (h21.trans (h22.trans (h23.trans (h24.trans h25)))).cell id0_20; have c25_16 := (h21.trans (h22.trans (h23.trans (h24.trans h25)))).cell id1_20; have c25_17 := (h21.trans (h22.trans (h23.trans (h24.trans h25)))).cell id2_20; have c25_18 := (h21.trans (h22.trans (h23.trans (h24.trans h25)))).cell ie0_20; have c25_19 := (h21.trans (h22.trans (h23.trans (h24.trans h25)))).cell ie1_20; have c25_20 := (h21.trans (h22.trans (h23.trans (h24.trans h25)))).cell ie2_20; have c25_21 := (h21.trans (h22.trans (h23.trans (h24.trans h25)))).cell if0_20; have c25_22 := (h21.trans (h22.trans (h23.trans (h24.trans h25)))).cell if1_20; have c25_23 := (h21.trans (h22.trans (h23.trans (h24.trans h25)))).cell if2_20) | (go_at_call 16; (with_reducible refine (same_same _ _ _ _ _ _ _ _ w25 (of.tens.ext (h20.trans (h21.trans (h22.trans (h23.trans (h24.trans h25)))))) (ot.tens.ext (h4.trans (h5.trans (h6.trans (h7.trans (h8.trans (h9.trans (h10.trans (h11.trans (h12.trans (h13.trans (h14.trans (h15.trans (h16.trans (h17.trans (h18.trans (h19.trans (h20.trans (h21.trans (h22.trans (h23.trans (h24.trans h25)))))))))))))))))))))) rfl rfl (by rw [HZA.out])).mono ?_); rintro e26 w26 ⟨rfl, h26⟩; have c26_0 := (h21.trans (h22.trans (h23.trans (h24.trans (h25.trans h26))))).cell ir0_20; have c26_1 := (h21.trans (h22.trans (h23.trans (h24.trans (h25.trans h26))))).cell ir1_20; have c26_2 := (h21.trans (h22.trans (h23.trans (h24.trans (h25.trans h26))))).cell ir2_20; have c26_3 := (h21.trans (h22.trans (h23.trans (h24.trans (h25.trans h26))))).cell it0_20; have c26_4 := (h21.trans (h22.trans (h23.trans (h24.trans (h25.trans h26))))).cell it1_20; have c26_5 := (h21.trans (h22.trans (h23.trans (h24.trans (h25.trans h26))))).cell it2_20; have c26_6 := (h21.trans (h22.trans (h23.trans (h24.trans (h25.trans h26))))).cell ia0_20; have c26_7 := (h21.trans (h22.trans (h23.trans (h24.trans (h25.trans h26))))).cell ia1_20; have c26_8 := (h21.trans (h22.trans (h23.trans (h24.trans (h25.trans h26))))).cell ia2_20; have c26_9 := (h21.trans (h22.trans (h23.trans (h24.trans (h25.trans h26))))).cell ib0_20; have c26_10 := (h21.trans (h22.trans (h23.trans (h24.trans (h25.trans h26))))).cell ib1_20; have c26_11 := (h21.trans (h22.trans (h23.trans (h24.trans (h25.trans h26))))).cell ib2_20; have c26_12 := (h21.trans (h22.trans (h23.trans (h24.trans (h25.trans h26))))).cell ic0_20; have c26_13 := (h21.trans (h22.trans (h23.trans (h24.trans (h25.trans h26))))).cell ic1_20; have c26_14 := (h21.trans (h22.trans (h23.trans (h24.trans (h25.trans h26))))).cell ic2_20; have c26_15 := (h21.trans (h22.trans (h23.trans (h24.trans (h25.trans h26))))).cell id0_20; have c26_16 := (h21.trans (h22.trans (h23.trans (h24.trans (h25.trans h26))))).cell id1_20; have c26_17 := (h21.trans (h22.trans (h23.trans (h24.trans (h25.trans h26))))).cell id2_20; have c26_18 := (h21.trans (h22.trans (h23.trans (h24.trans (h25.trans h26))))).cell ie0_20; have c26_19 := (h21.trans (h22.trans (h23.trans (h24.trans (h25.trans h26))))).cell ie1_20; have c26_20 := (h21.trans (h22.trans (h23.trans (h24.trans (h25.trans h26))))).cell ie2_20; have c26_21 := (h21.trans (h22.trans (h23.trans (h24.trans (h25.trans h26))))).cell if0_20; have c26_22 := (h21.trans (h22.trans (h23.trans (h24.trans (h25.trans h26))))).cell if1_20; have c26_23 := (h21.trans (h22.trans (h23.trans (h24.trans (h25.trans h26))))).cell if2_20))
  go_wp2
  go_ret
  exact ⟨rfl, (h1.trans (h2.trans (h3.trans (h4.trans (h5.trans (h6.trans (h7.trans (h8.trans (h9.trans (h10.trans (h11.trans (h12.trans (h13.trans (h14.trans (h15.trans (h16.trans (h17.trans (h18.trans (h19.trans (h20.trans (h21.trans (h22.trans (h23.trans (h24.trans (h25.trans h26)))))))))))))))))))))))))⟩
end Go.Proofs.Ytabeciopggofkaa
