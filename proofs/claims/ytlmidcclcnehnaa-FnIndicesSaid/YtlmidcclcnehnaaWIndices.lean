/- The law 'FnIndices', walked. -/
import Derived.Test.YtlmidcclcnehnaaTenW
import Derived.Test.YtlmidcclcnehnaaDrawS
import Derived.Test.YtlmidcclcnehnaaScalT
import Derived.Deep.RegionHeld3
namespace Go.Proofs.Ytlmidcclcnehnaa
open Go.RowKit
set_option linter.unusedSimpArgs false
set_option linter.unusedVariables false


set_option maxRecDepth 100000 in
set_option maxHeartbeats 8000000 in
theorem walkFnIndices (v : Value) (l : List Int) (w : World) (hl : ByteS w v l) (hall : ∀ x ∈ l, 0 ≤ x ∧ x ≤ 255) :
    Calls Try.prog 11 #[v] w fun e w' => e = .returned (.bool true) ∧ Ext w w' := by
  obtain ⟨ca, cap, rfl, hc1, hc2⟩ := hl.val
  by_cases big : 1048576 < l.length
  · go_enter Try.func11, Try.ntmps11
    go_wp2
    go_ret
    exact ⟨rfl, (by repeat' (first | (with_reducible exact Ext.refl _) | (with_reducible assumption) | (with_reducible apply Ext.alloc) | (with_reducible apply Ext.drew) | (with_reducible apply Ext.drewN) | (refine Ext.setAt ?_ (by omega) _ _) | (refine Ext.trans ?_ (by assumption))))⟩
  have hC : Code w (.slice ca l.length cap) l := ⟨hl, hall, by omega⟩
  clear hall hl
  go_enter Try.func11, Try.ntmps11
  go_wp2_with fail
  refine (makeRing_any _ l 0 _ hC (by omega)).mono ?_; rintro e1 w1 ⟨k, p, n, rfl, hd, h1⟩
  have HR := Lib.hid (drawn_ok hd); clear hd
  obtain ⟨W, hW⟩ : ∃ W : Nat, ringWidth k n = W := ⟨(ringWidth k n).toNat, by have := (ringOk_wide HR.out).lo; omega⟩
  have HW := Lib.hid hW; clear hW
  go_wp2_with fail
  generalize hG2 : w1.alloc (.cells #[.int .i64 k, .int .i64 p, .int .i64 n] 28) = w2
  have h2 : Ext w1 w2 := by rw [← hG2]; exact (Ext.refl _).alloc _
  have Br2 : Blk w2 w1.heap.size 28 [.int .i64 k, .int .i64 p, .int .i64 n] := by rw [← hG2]; exact Blk.new w1 #[.int .i64 k, .int .i64 p, .int .i64 n] 28
  clear hG2
  have Br2 := Br2
  have ir0_2 := Br2.cell (j := 0) rfl
  have ir1_2 := Br2.cell (j := 1) rfl
  have ir2_2 := Br2.cell (j := 2) rfl
  have lr_2 := Br2.lt
  refine (makeTensor_any _ l 10 k p n HR.out _ (hC.ext (h1.trans h2)) (by omega)).mono ?_; rintro e3 w3 ⟨vT, L, D, X, rfl, oT, dT, h3⟩
  have OT := Lib.hid dT.ok; clear dT
  obtain ⟨p1, n1, c1, p2, n2, c2, p3, n3, c3, rfl⟩ := oT.shape
  obtain ⟨s, hs⟩ : ∃ s, prodL D = s := ⟨_, rfl⟩
  have hs0 := OT.out.ax.pos
  have hs1 := OT.out.ax.size
  rw [hs] at hs0 hs1
  have HTS : Hid (tsize L D = s) := Lib.hid (by rw [OT.out.ax.tsize, hs])
  have HS := Lib.hid hs; clear hs
  have HYT := Lib.hid ((tensOk_iff HR.out).2 OT.out)
  clear ir0_2 ir1_2 ir2_2 lr_2
  have Br3 := (Br2.ext h3)
  clear Br2
  have ir0_3 := Br3.cell (j := 0) rfl
  have ir1_3 := Br3.cell (j := 1) rfl
  have ir2_3 := Br3.cell (j := 2) rfl
  have lr_3 := Br3.lt
  go_wp2_with fail
  generalize hG4 : w3.alloc (.cells #[.slice p1 n1 c1, .slice p2 n2 c2, .slice p3 n3 c3] 26) = w4
  have h4 : Ext w3 w4 := by rw [← hG4]; exact (Ext.refl _).alloc _
  have Bt4 : Blk w4 w3.heap.size 26 [.slice p1 n1 c1, .slice p2 n2 c2, .slice p3 n3 c3] := by rw [← hG4]; exact Blk.new w3 #[.slice p1 n1 c1, .slice p2 n2 c2, .slice p3 n3 c3] 26
  clear hG4
  clear ir0_3 ir1_3 ir2_3 lr_3
  have Br4 := (Br3.ext h4)
  clear Br3
  have ir0_4 := Br4.cell (j := 0) rfl
  have ir1_4 := Br4.cell (j := 1) rfl
  have ir2_4 := Br4.cell (j := 2) rfl
  have lr_4 := Br4.lt
  have Bt4 := Bt4
  have it0_4 := Bt4.cell (j := 0) rfl
  have it1_4 := Bt4.cell (j := 1) rfl
  have it2_4 := Bt4.cell (j := 2) rfl
  have lt_4 := Bt4.lt
  refine (tensorSize_impl _ L D X _ (oT.tens.ext h4)).mono ?_; rintro e5 w5 ⟨rfl, h5⟩
  rw [HTS.out]
  clear ir0_4 ir1_4 ir2_4 lr_4 it0_4 it1_4 it2_4 lt_4
  have Br5 := (Br4.ext h5)
  clear Br4
  have ir0_5 := Br5.cell (j := 0) rfl
  have ir1_5 := Br5.cell (j := 1) rfl
  have ir2_5 := Br5.cell (j := 2) rfl
  have lr_5 := Br5.lt
  have Bt5 := (Bt4.ext h5)
  clear Bt4
  have it0_5 := Bt5.cell (j := 0) rfl
  have it1_5 := Bt5.cell (j := 1) rfl
  have it2_5 := Bt5.cell (j := 2) rfl
  have lt_5 := Bt5.lt
  go_wp2_with fail
  refine (tensorOk_impl k p n _ L D X _ (oT.tens.ext (h4.trans h5))).mono ?_; rintro e6 w6 ⟨rfl, h6⟩
  rw [HYT.out]
  clear ir0_5 ir1_5 ir2_5 lr_5 it0_5 it1_5 it2_5 lt_5
  have Br6 := (Br5.ext h6)
  clear Br5
  have ir0_6 := Br6.cell (j := 0) rfl
  have ir1_6 := Br6.cell (j := 1) rfl
  have ir2_6 := Br6.cell (j := 2) rfl
  have lr_6 := Br6.lt
  have Bt6 := (Bt5.ext h6)
  clear Bt5
  have it0_6 := Bt6.cell (j := 0) rfl
  have it1_6 := Bt6.cell (j := 1) rfl
  have it2_6 := Bt6.cell (j := 2) rfl
  have lt_6 := Bt6.lt
  go_wp2_with fail
  refine (makeSize_any _ l 60 0 (s - 1) _ (hC.ext (h1.trans (h2.trans (h3.trans (h4.trans (h5.trans h6)))))) (by omega) (by omega)).mono ?_; rintro e7 w7 ⟨m, rfl, ⟨hm0, hm1⟩, h7⟩
  have HI := Lib.hid (idxL_ok (n := m) OT.out.ax.dims)
  have HOff : Hid (offL D (idxL D m) = m) := Lib.hid (offL_idx OT.out.ax.dims hm0 (by rw [HS.out]; omega))
  clear ir0_6 ir1_6 ir2_6 lr_6 it0_6 it1_6 it2_6 lt_6
  have Br7 := (Br6.ext h7)
  clear Br6
  have ir0_7 := Br7.cell (j := 0) rfl
  have ir1_7 := Br7.cell (j := 1) rfl
  have ir2_7 := Br7.cell (j := 2) rfl
  have lr_7 := Br7.lt
  have Bt7 := (Bt6.ext h7)
  clear Bt6
  have it0_7 := Bt7.cell (j := 0) rfl
  have it1_7 := Bt7.cell (j := 1) rfl
  have it2_7 := Bt7.cell (j := 2) rfl
  have lt_7 := Bt7.lt
  go_wp2_with fail
  refine (indexAt_yes _ L D X m _ (oT.tens.ext (h4.trans (h5.trans (h6.trans h7)))) OT.out.ax hm0 (by rw [HS.out]; omega)).mono ?_; rintro e8 w8 ⟨vI, rfl, oI, h8⟩
  obtain ⟨aI, cI, rfl, hcI, hdI⟩ := oI.ints.val
  obtain ⟨I, hI⟩ : ∃ I, idxL D m = I := ⟨_, rfl⟩
  rw [hI] at HI HOff oI hcI ⊢
  clear hI
  clear ir0_7 ir1_7 ir2_7 lr_7 it0_7 it1_7 it2_7 lt_7
  have Br8 := (Br7.ext h8)
  clear Br7
  have ir0_8 := Br8.cell (j := 0) rfl
  have ir1_8 := Br8.cell (j := 1) rfl
  have ir2_8 := Br8.cell (j := 2) rfl
  have lr_8 := Br8.lt
  have Bt8 := (Bt7.ext h8)
  clear Bt7
  have it0_8 := Bt8.cell (j := 0) rfl
  have it1_8 := Bt8.cell (j := 1) rfl
  have it2_8 := Bt8.cell (j := 2) rfl
  have lt_8 := Bt8.lt
  go_wp2_with fail
  refine (makeElem_any _ l 70 k p n HR.out _ (hC.ext (h1.trans (h2.trans (h3.trans (h4.trans (h5.trans (h6.trans (h7.trans h8)))))))) (by omega)).mono ?_; rintro e9 w9 ⟨vx, x, rfl, ox, hx, h9⟩
  have HX := Lib.hid hx; clear hx
  obtain ⟨ax, cx, rfl, hcx, hdx⟩ := ox.ints.val
  clear ir0_8 ir1_8 ir2_8 lr_8 it0_8 it1_8 it2_8 lt_8
  have Br9 := (Br8.ext h9)
  clear Br8
  have ir0_9 := Br9.cell (j := 0) rfl
  have ir1_9 := Br9.cell (j := 1) rfl
  have ir2_9 := Br9.cell (j := 2) rfl
  have lr_9 := Br9.lt
  have Bt9 := (Bt8.ext h9)
  clear Bt8
  have it0_9 := Bt9.cell (j := 0) rfl
  have it1_9 := Bt9.cell (j := 1) rfl
  have it2_9 := Bt9.cell (j := 2) rfl
  have lt_9 := Bt9.lt
  go_wp2_with fail
  refine (setElem_yes k p n W _ _ _ L D X I x _ HR.out HW.out OT.out (oT.tens.ext (h4.trans (h5.trans (h6.trans (h7.trans (h8.trans h9)))))) (oI.ints.ext h9) HI.out ox.ints HX.out).mono ?_; rintro e10 w10 ⟨vU, rfl, oU, h10⟩
  obtain ⟨q1, m1, d1, q2, m2, d2, q3, m3, d3, rfl⟩ := oU.shape
  rw [HOff.out] at oU
  have hfit : m.toNat * W + W ≤ X.length := by
    obtain ⟨P, W', hP, hW', _, _, _, _, hXl⟩ := OT.out.nat HR.out
    have e : W = W' := by have := HW.out; omega
    subst e
    have := (off_fit (W := W) hP HI.out OT.out.ax.dims).2.1
    rw [HOff.out] at this
    omega
  have hxl : x.length = W := by have := (rawOk_iff.1 HX.out).1; have := HW.out; omega
  have OU : Hid (TOk k p n L D (putL X (m.toNat * W) x)) := Lib.hid ⟨OT.out.ax, by rw [putL_length (by rw [hxl]; exact hfit)]; exact OT.out.len, putL_top OT.out.top (allTo_iff.2 (rawOk_iff.1 HX.out).2)⟩
  have HYU := Lib.hid ((tensOk_iff HR.out).2 OU.out)
  have HG1 : Hid (getL (putL X (m.toNat * W) x) (m.toNat * W) W = x) := Lib.hid (getL_putL hxl hfit)
  have HG2 : Hid (putL (putL X (m.toNat * W) x) (m.toNat * W) (getL X (m.toNat * W) W) = X) := Lib.hid (by rw [putL_putL hxl (getL_length hfit) hfit, putL_getL hfit])
  have HG3 : Hid (rawOk k p n (getL X (m.toNat * W) W) = true) := Lib.hid (rawOk_iff.2 ⟨by rw [getL_length hfit, HW.out], allTo_iff.1 (getL_top OT.out.top)⟩)
  have HSc : Hid (scalX k p n x = x) := Lib.hid (scalX_yes (elemOk_of HR.out HX.out))
  clear hfit hxl
  clear ir0_9 ir1_9 ir2_9 lr_9 it0_9 it1_9 it2_9 lt_9
  have Br10 := (Br9.ext h10)
  clear Br9
  have ir0_10 := Br10.cell (j := 0) rfl
  have ir1_10 := Br10.cell (j := 1) rfl
  have ir2_10 := Br10.cell (j := 2) rfl
  have lr_10 := Br10.lt
  have Bt10 := (Bt9.ext h10)
  clear Bt9
  have it0_10 := Bt10.cell (j := 0) rfl
  have it1_10 := Bt10.cell (j := 1) rfl
  have it2_10 := Bt10.cell (j := 2) rfl
  have lt_10 := Bt10.lt
  go_wp2_with fail
  generalize hG11 : w10.alloc (.cells #[.slice q1 m1 d1, .slice q2 m2 d2, .slice q3 m3 d3] 26) = w11
  have h11 : Ext w10 w11 := by rw [← hG11]; exact (Ext.refl _).alloc _
  have Bu11 : Blk w11 w10.heap.size 26 [.slice q1 m1 d1, .slice q2 m2 d2, .slice q3 m3 d3] := by rw [← hG11]; exact Blk.new w10 #[.slice q1 m1 d1, .slice q2 m2 d2, .slice q3 m3 d3] 26
  clear hG11
  clear ir0_10 ir1_10 ir2_10 lr_10 it0_10 it1_10 it2_10 lt_10
  have Br11 := (Br10.ext h11)
  clear Br10
  have ir0_11 := Br11.cell (j := 0) rfl
  have ir1_11 := Br11.cell (j := 1) rfl
  have ir2_11 := Br11.cell (j := 2) rfl
  have lr_11 := Br11.lt
  have Bt11 := (Bt10.ext h11)
  clear Bt10
  have it0_11 := Bt11.cell (j := 0) rfl
  have it1_11 := Bt11.cell (j := 1) rfl
  have it2_11 := Bt11.cell (j := 2) rfl
  have lt_11 := Bt11.lt
  have Bu11 := Bu11
  have iu0_11 := Bu11.cell (j := 0) rfl
  have iu1_11 := Bu11.cell (j := 1) rfl
  have iu2_11 := Bu11.cell (j := 2) rfl
  have lu_11 := Bu11.lt
  refine (indexAt_no _ L D X s _ (oT.tens.ext (h4.trans (h5.trans (h6.trans (h7.trans (h8.trans (h9.trans (h10.trans h11)))))))) OT.out.ax (by omega) (by rw [HS.out]; omega)).mono ?_; rintro e12 w12 ⟨rfl, h12⟩
  clear ir0_11 ir1_11 ir2_11 lr_11 it0_11 it1_11 it2_11 lt_11 iu0_11 iu1_11 iu2_11 lu_11
  have Br12 := (Br11.ext h12)
  clear Br11
  have ir0_12 := Br12.cell (j := 0) rfl
  have ir1_12 := Br12.cell (j := 1) rfl
  have ir2_12 := Br12.cell (j := 2) rfl
  have lr_12 := Br12.lt
  have Bt12 := (Bt11.ext h12)
  clear Bt11
  have it0_12 := Bt12.cell (j := 0) rfl
  have it1_12 := Bt12.cell (j := 1) rfl
  have it2_12 := Bt12.cell (j := 2) rfl
  have lt_12 := Bt12.lt
  have Bu12 := (Bu11.ext h12)
  clear Bu11
  have iu0_12 := Bu12.cell (j := 0) rfl
  have iu1_12 := Bu12.cell (j := 1) rfl
  have iu2_12 := Bu12.cell (j := 2) rfl
  have lu_12 := Bu12.lt
  go_wp2_with fail
  refine (offsetOf_yes _ _ L D X I _ (oT.tens.ext (h4.trans (h5.trans (h6.trans (h7.trans (h8.trans (h9.trans (h10.trans (h11.trans h12))))))))) (oI.ints.ext (h9.trans (h10.trans (h11.trans h12)))) OT.out.ax HI.out).mono ?_; rintro e13 w13 ⟨rfl, h13⟩
  rw [HOff.out]
  clear ir0_12 ir1_12 ir2_12 lr_12 it0_12 it1_12 it2_12 lt_12 iu0_12 iu1_12 iu2_12 lu_12
  have Br13 := (Br12.ext h13)
  clear Br12
  have ir0_13 := Br13.cell (j := 0) rfl
  have ir1_13 := Br13.cell (j := 1) rfl
  have ir2_13 := Br13.cell (j := 2) rfl
  have lr_13 := Br13.lt
  have Bt13 := (Bt12.ext h13)
  clear Bt12
  have it0_13 := Bt13.cell (j := 0) rfl
  have it1_13 := Bt13.cell (j := 1) rfl
  have it2_13 := Bt13.cell (j := 2) rfl
  have lt_13 := Bt13.lt
  have Bu13 := (Bu12.ext h13)
  clear Bu12
  have iu0_13 := Bu13.cell (j := 0) rfl
  have iu1_13 := Bu13.cell (j := 1) rfl
  have iu2_13 := Bu13.cell (j := 2) rfl
  have lu_13 := Bu13.lt
  go_wp2_with fail
  refine (elemAt_yes k p n W _ _ L D _ I _ HR.out HW.out OU.out (oU.tens.ext (h11.trans (h12.trans h13))) (oI.ints.ext (h9.trans (h10.trans (h11.trans (h12.trans h13))))) HI.out).mono ?_; rintro e14 w14 ⟨vE, rfl, oE, h14⟩
  rw [HOff.out, HG1.out] at oE
  clear ir0_13 ir1_13 ir2_13 lr_13 it0_13 it1_13 it2_13 lt_13 iu0_13 iu1_13 iu2_13 lu_13
  have Br14 := (Br13.ext h14)
  clear Br13
  have ir0_14 := Br14.cell (j := 0) rfl
  have ir1_14 := Br14.cell (j := 1) rfl
  have ir2_14 := Br14.cell (j := 2) rfl
  have lr_14 := Br14.lt
  have Bt14 := (Bt13.ext h14)
  clear Bt13
  have it0_14 := Bt14.cell (j := 0) rfl
  have it1_14 := Bt14.cell (j := 1) rfl
  have it2_14 := Bt14.cell (j := 2) rfl
  have lt_14 := Bt14.lt
  have Bu14 := (Bu13.ext h14)
  clear Bu13
  have iu0_14 := Bu14.cell (j := 0) rfl
  have iu1_14 := Bu14.cell (j := 1) rfl
  have iu2_14 := Bu14.cell (j := 2) rfl
  have lu_14 := Bu14.lt
  go_wp2_with fail
  refine (ints_same _ _ x x _ oE.ints (ox.ints.ext (h10.trans (h11.trans (h12.trans (h13.trans h14))))) rfl).mono ?_; rintro e15 u15 ⟨rfl, rfl⟩
  go_wp2_with fail
  refine (tensorOk_impl k p n _ L D _ _ (oU.tens.ext (h11.trans (h12.trans (h13.trans h14))))).mono ?_; rintro e16 w16 ⟨rfl, h16⟩
  rw [HYU.out]
  clear ir0_14 ir1_14 ir2_14 lr_14 it0_14 it1_14 it2_14 lt_14 iu0_14 iu1_14 iu2_14 lu_14
  have Br16 := (Br14.ext h16)
  clear Br14
  have ir0_16 := Br16.cell (j := 0) rfl
  have ir1_16 := Br16.cell (j := 1) rfl
  have ir2_16 := Br16.cell (j := 2) rfl
  have lr_16 := Br16.lt
  have Bt16 := (Bt14.ext h16)
  clear Bt14
  have it0_16 := Bt16.cell (j := 0) rfl
  have it1_16 := Bt16.cell (j := 1) rfl
  have it2_16 := Bt16.cell (j := 2) rfl
  have lt_16 := Bt16.lt
  have Bu16 := (Bu14.ext h16)
  clear Bu14
  have iu0_16 := Bu16.cell (j := 0) rfl
  have iu1_16 := Bu16.cell (j := 1) rfl
  have iu2_16 := Bu16.cell (j := 2) rfl
  have lu_16 := Bu16.lt
  go_wp2_with fail
  try simp only [List.append]
  have h17 : Ext w16 w16.drew := (Ext.refl _).drew
  go_region_held3 (fun w' => w'.cell? ⟨w1.heap.size, 0, none⟩ = some (.int .i64 k) ∧ w'.cell? ⟨w1.heap.size, 1, none⟩ = some (.int .i64 p) ∧ w'.cell? ⟨w1.heap.size, 2, none⟩ = some (.int .i64 n) ∧ w'.cell? ⟨w3.heap.size, 0, none⟩ = some (.slice p1 n1 c1) ∧ w'.cell? ⟨w3.heap.size, 1, none⟩ = some (.slice p2 n2 c2) ∧ w'.cell? ⟨w3.heap.size, 2, none⟩ = some (.slice p3 n3 c3) ∧ w'.cell? ⟨w10.heap.size, 0, none⟩ = some (.slice q1 m1 d1) ∧ w'.cell? ⟨w10.heap.size, 1, none⟩ = some (.slice q2 m2 d2) ∧ w'.cell? ⟨w10.heap.size, 2, none⟩ = some (.slice q3 m3 d3))
    (refine ⟨?_, ?_, ?_, ?_, ?_, ?_, ?_, ?_, ?_⟩ <;> first | assumption | exact ((Ext.refl _).alloc _).cell (by assumption) | (simp [*]; done))
    (first | (go_at_call 54; (with_reducible refine (elemAt_yes k p n W _ _ L D X I w16.drew HR.out HW.out OT.out (oT.tens.ext (h4.trans (h5.trans (h6.trans (h7.trans (h8.trans (h9.trans (h10.trans (h11.trans (h12.trans (h13.trans (h14.trans (h16.trans h17))))))))))))) (oI.ints.ext (h9.trans (h10.trans (h11.trans (h12.trans (h13.trans (h14.trans (h16.trans h17)))))))) HI.out).mono ?_); rintro e18 w18 ⟨vY, rfl, oY, h18⟩; rw [HOff.out] at oY; have c18_0 := (h17.trans h18).cell ir0_16; have c18_1 := (h17.trans h18).cell ir1_16; have c18_2 := (h17.trans h18).cell ir2_16; have c18_3 := (h17.trans h18).cell it0_16; have c18_4 := (h17.trans h18).cell it1_16; have c18_5 := (h17.trans h18).cell it2_16; have c18_6 := (h17.trans h18).cell iu0_16; have c18_7 := (h17.trans h18).cell iu1_16; have c18_8 := (h17.trans h18).cell iu2_16) | (go_at_call 52; (with_reducible refine (setElem_yes k p n W _ _ _ L D _ I (getL X (m.toNat * W) W) w18 HR.out HW.out OU.out (oU.tens.ext (h11.trans (h12.trans (h13.trans (h14.trans (h16.trans (h17.trans h18))))))) (oI.ints.ext (h9.trans (h10.trans (h11.trans (h12.trans (h13.trans (h14.trans (h16.trans (h17.trans h18))))))))) HI.out oY.ints HG3.out).mono ?_); rintro e19 w19 ⟨vZ, rfl, oZ, h19⟩; rw [HOff.out, HG2.out] at oZ; have c19_0 := (h17.trans (h18.trans h19)).cell ir0_16; have c19_1 := (h17.trans (h18.trans h19)).cell ir1_16; have c19_2 := (h17.trans (h18.trans h19)).cell ir2_16; have c19_3 := (h17.trans (h18.trans h19)).cell it0_16; have c19_4 := (h17.trans (h18.trans h19)).cell it1_16; have c19_5 := (h17.trans (h18.trans h19)).cell it2_16; have c19_6 := (h17.trans (h18.trans h19)).cell iu0_16; have c19_7 := (h17.trans (h18.trans h19)).cell iu1_16; have c19_8 := (h17.trans (h18.trans h19)).cell iu2_16) | (go_at_call 55; (with_reducible refine (same_same _ _ L D X L D X w19 oZ.tens (oT.tens.ext (h4.trans (h5.trans (h6.trans (h7.trans (h8.trans (h9.trans (h10.trans (h11.trans (h12.trans (h13.trans (h14.trans (h16.trans (h17.trans (h18.trans h19))))))))))))))) rfl rfl rfl).mono ?_); rintro e20 w20 ⟨rfl, h20⟩; have c20_0 := (h17.trans (h18.trans (h19.trans h20))).cell ir0_16; have c20_1 := (h17.trans (h18.trans (h19.trans h20))).cell ir1_16; have c20_2 := (h17.trans (h18.trans (h19.trans h20))).cell ir2_16; have c20_3 := (h17.trans (h18.trans (h19.trans h20))).cell it0_16; have c20_4 := (h17.trans (h18.trans (h19.trans h20))).cell it1_16; have c20_5 := (h17.trans (h18.trans (h19.trans h20))).cell it2_16; have c20_6 := (h17.trans (h18.trans (h19.trans h20))).cell iu0_16; have c20_7 := (h17.trans (h18.trans (h19.trans h20))).cell iu1_16; have c20_8 := (h17.trans (h18.trans (h19.trans h20))).cell iu2_16) | (go_at_call 18; (with_reducible refine (scalarTensor_impl k p n _ x w20 (ox.ints.ext (h10.trans (h11.trans (h12.trans (h13.trans (h14.trans (h16.trans (h17.trans (h18.trans (h19.trans h20))))))))))).mono ?_); rintro e21 w21 ⟨vS, rfl, oS, h21⟩; rw [HSc.out] at oS; have c21_0 := (h17.trans (h18.trans (h19.trans (h20.trans h21)))).cell ir0_16; have c21_1 := (h17.trans (h18.trans (h19.trans (h20.trans h21)))).cell ir1_16; have c21_2 := (h17.trans (h18.trans (h19.trans (h20.trans h21)))).cell ir2_16; have c21_3 := (h17.trans (h18.trans (h19.trans (h20.trans h21)))).cell it0_16; have c21_4 := (h17.trans (h18.trans (h19.trans (h20.trans h21)))).cell it1_16; have c21_5 := (h17.trans (h18.trans (h19.trans (h20.trans h21)))).cell it2_16; have c21_6 := (h17.trans (h18.trans (h19.trans (h20.trans h21)))).cell iu0_16; have c21_7 := (h17.trans (h18.trans (h19.trans (h20.trans h21)))).cell iu1_16; have c21_8 := (h17.trans (h18.trans (h19.trans (h20.trans h21)))).cell iu2_16) | (go_at_call 55; (with_reducible refine (same_same _ _ [] [] x [] [] x w21 oS.tens ⟨_, _, _, rfl, IntS.nil _, IntS.nil _, (ox.ints.ext (h10.trans (h11.trans (h12.trans (h13.trans (h14.trans (h16.trans (h17.trans (h18.trans (h19.trans (h20.trans h21)))))))))))⟩ rfl rfl rfl).mono ?_); rintro e22 w22 ⟨rfl, h22⟩; have c22_0 := (h17.trans (h18.trans (h19.trans (h20.trans (h21.trans h22))))).cell ir0_16; have c22_1 := (h17.trans (h18.trans (h19.trans (h20.trans (h21.trans h22))))).cell ir1_16; have c22_2 := (h17.trans (h18.trans (h19.trans (h20.trans (h21.trans h22))))).cell ir2_16; have c22_3 := (h17.trans (h18.trans (h19.trans (h20.trans (h21.trans h22))))).cell it0_16; have c22_4 := (h17.trans (h18.trans (h19.trans (h20.trans (h21.trans h22))))).cell it1_16; have c22_5 := (h17.trans (h18.trans (h19.trans (h20.trans (h21.trans h22))))).cell it2_16; have c22_6 := (h17.trans (h18.trans (h19.trans (h20.trans (h21.trans h22))))).cell iu0_16; have c22_7 := (h17.trans (h18.trans (h19.trans (h20.trans (h21.trans h22))))).cell iu1_16; have c22_8 := (h17.trans (h18.trans (h19.trans (h20.trans (h21.trans h22))))).cell iu2_16))
  go_wp2
  go_ret
  exact ⟨rfl, (h1.trans (h2.trans (h3.trans (h4.trans (h5.trans (h6.trans (h7.trans (h8.trans (h9.trans (h10.trans (h11.trans (h12.trans (h13.trans (h14.trans (h16.trans (h17.trans (h18.trans (h19.trans (h20.trans (h21.trans h22))))))))))))))))))))⟩
end Go.Proofs.Ytlmidcclcnehnaa
