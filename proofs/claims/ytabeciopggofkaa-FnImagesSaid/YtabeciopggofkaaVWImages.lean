/- The law 'FnImages', walked. -/
import Derived.Deep.RegionHeld3
import Derived.Test.YtabeciopggofkaaVBase
import Derived.Test.YtabeciopggofkaaVMapW
import Derived.Test.YtabeciopggofkaaVContrW
import Derived.Test.YtabeciopggofkaaVSomeW
import Derived.Test.YtabeciopggofkaaVDrawE
import Derived.Test.YtabeciopggofkaaVDrawM
import Derived.Test.YtabeciopggofkaaVPairsP
namespace Go.Proofs.Ytabeciopggofkaa
open Go.RowKit
set_option linter.unusedSimpArgs false
set_option linter.unusedVariables false

theorem map_isT {fk fp fn tk tp tn hk ha : Int} (H : Keeps fk fp fn tk tp tn hk ha) {dm : Int → Int} {U L : List Int} {xs : List (El fk fp fn)} (h : IsT fk fp fn dm U L xs) : IsT tk tp tn dm U L (xs.map (homEl H)) := ⟨h.uni, h.sub, by rw [List.length_map]; exact h.len⟩
theorem contrXs_hom {fk fp fn tk tp tn hk ha : Int} (H : Keeps fk fp fn tk tp tn hk ha) (hr : ringOk fk fp fn = true) (hr2 : ringOk tk tp tn = true) (dm : Int → Int) (a b keep : List Int) (xs ys : List (El fk fp fn)) :
    (contrXs hr dm a b keep xs ys).map (homEl H) = contrXs hr2 dm a b keep (xs.map (homEl H)) (ys.map (homEl H)) := by
  unfold contrXs mulF
  rw [contr_hom H hr hr2]
  congr 1
  funext σ
  congr 1
  funext τ
  rw [valT_hom H hr hr2, valT_hom H hr hr2]

set_option maxRecDepth 100000 in
set_option maxHeartbeats 8000000 in
theorem walkFnImages (v : Value) (l : List Int) (w : World) (hl : ByteS w v l) (hall : ∀ x ∈ l, 0 ≤ x ∧ x ≤ 255) :
    Calls Try.prog 3 #[v] w fun e w' => e = .returned (.bool true) ∧ Ext w w' := by
  obtain ⟨ca, cap, rfl, hc1, hc2⟩ := hl.val
  by_cases big : 1048576 < l.length
  · go_enter Try.func3, Try.ntmps3
    go_wp2
    go_ret
    exact ⟨rfl, (by repeat' (first | (with_reducible exact Ext.refl _) | (with_reducible assumption) | (with_reducible apply Ext.alloc) | (with_reducible apply Ext.drew) | (with_reducible apply Ext.drewN) | (refine Ext.setAt ?_ (by omega) _ _) | (refine Ext.trans ?_ (by assumption))))⟩
  have hC : Code w (.slice ca l.length cap) l := ⟨hl, hall, by omega⟩
  clear hall hl
  go_enter Try.func3, Try.ntmps3
  go_wp2_with fail
  refine (makeHom_any _ l 0 _ hC (by omega)).mono ?_; rintro e1 w1 ⟨fk, fp, fn, tk, tp, tn, hk, ha, rfl, ⟨hd, hok⟩, h1⟩
  have HH := Lib.hid hok
  have HR := Lib.hid (homOk_parts hok).1
  have HR2 := Lib.hid (homOk_parts hok).2.1
  have H := keeps_all hok
  clear hd hok
  go_wp2_with fail
  generalize hG2 : (((w1.alloc (.cells #[.int .i64 fk, .int .i64 fp, .int .i64 fn] 24)).alloc (.cells #[.int .i64 tk, .int .i64 tp, .int .i64 tn] 24)).alloc (.cells #[.int .i64 hk, .int .i64 ha] 26)) = w2
  have h2 : Ext w1 w2 := by rw [← hG2]; exact (by repeat' (first | (with_reducible exact Ext.refl _) | (with_reducible assumption) | (with_reducible apply Ext.alloc) | (with_reducible apply Ext.drew) | (with_reducible apply Ext.drewN) | (refine Ext.setAt ?_ (by omega) _ _) | (refine Ext.trans ?_ (by assumption))))
  have Bf2 : Blk w2 (w1.heap.size) 24 [.int .i64 fk, .int .i64 fp, .int .i64 fn] := by rw [← hG2]; exact (((Blk.newB (c := #[_, _, _]) (by simp)).alloc _).alloc _)
  have Bq2 : Blk w2 (w1.heap.size + 1) 24 [.int .i64 tk, .int .i64 tp, .int .i64 tn] := by rw [← hG2]; exact ((Blk.newB (c := #[_, _, _]) (by simp)).alloc _)
  have Bm2 : Blk w2 (w1.heap.size + 1 + 1) 26 [.int .i64 hk, .int .i64 ha] := by rw [← hG2]; exact (Blk.newB (c := #[_, _]) (by simp))
  clear hG2
  have Bf2 := Bf2
  have if0_2 := Bf2.cell (j := 0) rfl
  have if1_2 := Bf2.cell (j := 1) rfl
  have if2_2 := Bf2.cell (j := 2) rfl
  have lf_2 := Bf2.lt
  have Bq2 := Bq2
  have iq0_2 := Bq2.cell (j := 0) rfl
  have iq1_2 := Bq2.cell (j := 1) rfl
  have iq2_2 := Bq2.cell (j := 2) rfl
  have lq_2 := Bq2.lt
  have Bm2 := Bm2
  have im0_2 := Bm2.cell (j := 0) rfl
  have im1_2 := Bm2.cell (j := 1) rfl
  have lm_2 := Bm2.lt
  refine (makeTensor_any _ l 10 fk fp fn HR.out _ (hC.ext (h1.trans h2)) (by omega)).mono ?_; rintro e3 w3 ⟨vTa, a, Da, Xa, rfl, oa, dT, h3⟩
  obtain ⟨xsa, rfl, rfl, hT⟩ := drawn_isT HR.out dT
  have Ta := Lib.hid hT; clear dT hT
  obtain ⟨ap1, an1, ac1, ap2, an2, ac2, ap3, an3, ac3, rfl⟩ := oa.shape
  clear if0_2 if1_2 if2_2 lf_2 iq0_2 iq1_2 iq2_2 lq_2 im0_2 im1_2 lm_2
  have Bf3 := (Bf2.ext h3)
  clear Bf2
  have if0_3 := Bf3.cell (j := 0) rfl
  have if1_3 := Bf3.cell (j := 1) rfl
  have if2_3 := Bf3.cell (j := 2) rfl
  have lf_3 := Bf3.lt
  have Bq3 := (Bq2.ext h3)
  clear Bq2
  have iq0_3 := Bq3.cell (j := 0) rfl
  have iq1_3 := Bq3.cell (j := 1) rfl
  have iq2_3 := Bq3.cell (j := 2) rfl
  have lq_3 := Bq3.lt
  have Bm3 := (Bm2.ext h3)
  clear Bm2
  have im0_3 := Bm3.cell (j := 0) rfl
  have im1_3 := Bm3.cell (j := 1) rfl
  have lm_3 := Bm3.lt
  go_wp2_with fail
  generalize hG4 : w3.alloc (.cells #[.slice ap1 an1 ac1, .slice ap2 an2 ac2, .slice ap3 an3 ac3] 31) = w4
  have h4 : Ext w3 w4 := by rw [← hG4]; exact (Ext.refl _).alloc _
  have Ba4 : Blk w4 w3.heap.size 31 [.slice ap1 an1 ac1, .slice ap2 an2 ac2, .slice ap3 an3 ac3] := by rw [← hG4]; exact Blk.new w3 #[.slice ap1 an1 ac1, .slice ap2 an2 ac2, .slice ap3 an3 ac3] 31
  clear hG4
  clear if0_3 if1_3 if2_3 lf_3 iq0_3 iq1_3 iq2_3 lq_3 im0_3 im1_3 lm_3
  have Bf4 := (Bf3.ext h4)
  clear Bf3
  have if0_4 := Bf4.cell (j := 0) rfl
  have if1_4 := Bf4.cell (j := 1) rfl
  have if2_4 := Bf4.cell (j := 2) rfl
  have lf_4 := Bf4.lt
  have Bq4 := (Bq3.ext h4)
  clear Bq3
  have iq0_4 := Bq4.cell (j := 0) rfl
  have iq1_4 := Bq4.cell (j := 1) rfl
  have iq2_4 := Bq4.cell (j := 2) rfl
  have lq_4 := Bq4.lt
  have Bm4 := (Bm3.ext h4)
  clear Bm3
  have im0_4 := Bm4.cell (j := 0) rfl
  have im1_4 := Bm4.cell (j := 1) rfl
  have lm_4 := Bm4.lt
  have Ba4 := Ba4
  have ia0_4 := Ba4.cell (j := 0) rfl
  have ia1_4 := Ba4.cell (j := 1) rfl
  have ia2_4 := Ba4.cell (j := 2) rfl
  have la_4 := Ba4.lt
  refine (makeTensor_any _ l 60 fk fp fn HR.out _ (hC.ext (h1.trans (h2.trans (h3.trans h4)))) (by omega)).mono ?_; rintro e5 w5 ⟨vTb, b, Db, Xb, rfl, ob, dT, h5⟩
  obtain ⟨xsb, rfl, rfl, hT⟩ := drawn_isT HR.out dT
  have Tb := Lib.hid hT; clear dT hT
  obtain ⟨bp1, bn1, bc1, bp2, bn2, bc2, bp3, bn3, bc3, rfl⟩ := ob.shape
  clear if0_4 if1_4 if2_4 lf_4 iq0_4 iq1_4 iq2_4 lq_4 im0_4 im1_4 lm_4 ia0_4 ia1_4 ia2_4 la_4
  have Bf5 := (Bf4.ext h5)
  clear Bf4
  have if0_5 := Bf5.cell (j := 0) rfl
  have if1_5 := Bf5.cell (j := 1) rfl
  have if2_5 := Bf5.cell (j := 2) rfl
  have lf_5 := Bf5.lt
  have Bq5 := (Bq4.ext h5)
  clear Bq4
  have iq0_5 := Bq5.cell (j := 0) rfl
  have iq1_5 := Bq5.cell (j := 1) rfl
  have iq2_5 := Bq5.cell (j := 2) rfl
  have lq_5 := Bq5.lt
  have Bm5 := (Bm4.ext h5)
  clear Bm4
  have im0_5 := Bm5.cell (j := 0) rfl
  have im1_5 := Bm5.cell (j := 1) rfl
  have lm_5 := Bm5.lt
  have Ba5 := (Ba4.ext h5)
  clear Ba4
  have ia0_5 := Ba5.cell (j := 0) rfl
  have ia1_5 := Ba5.cell (j := 1) rfl
  have ia2_5 := Ba5.cell (j := 2) rfl
  have la_5 := Ba5.lt
  go_wp2_with fail
  generalize hG6 : w5.alloc (.cells #[.slice bp1 bn1 bc1, .slice bp2 bn2 bc2, .slice bp3 bn3 bc3] 31) = w6
  have h6 : Ext w5 w6 := by rw [← hG6]; exact (Ext.refl _).alloc _
  have Bb6 : Blk w6 w5.heap.size 31 [.slice bp1 bn1 bc1, .slice bp2 bn2 bc2, .slice bp3 bn3 bc3] := by rw [← hG6]; exact Blk.new w5 #[.slice bp1 bn1 bc1, .slice bp2 bn2 bc2, .slice bp3 bn3 bc3] 31
  clear hG6
  clear if0_5 if1_5 if2_5 lf_5 iq0_5 iq1_5 iq2_5 lq_5 im0_5 im1_5 lm_5 ia0_5 ia1_5 ia2_5 la_5
  have Bf6 := (Bf5.ext h6)
  clear Bf5
  have if0_6 := Bf6.cell (j := 0) rfl
  have if1_6 := Bf6.cell (j := 1) rfl
  have if2_6 := Bf6.cell (j := 2) rfl
  have lf_6 := Bf6.lt
  have Bq6 := (Bq5.ext h6)
  clear Bq5
  have iq0_6 := Bq6.cell (j := 0) rfl
  have iq1_6 := Bq6.cell (j := 1) rfl
  have iq2_6 := Bq6.cell (j := 2) rfl
  have lq_6 := Bq6.lt
  have Bm6 := (Bm5.ext h6)
  clear Bm5
  have im0_6 := Bm6.cell (j := 0) rfl
  have im1_6 := Bm6.cell (j := 1) rfl
  have lm_6 := Bm6.lt
  have Ba6 := (Ba5.ext h6)
  clear Ba5
  have ia0_6 := Ba6.cell (j := 0) rfl
  have ia1_6 := Ba6.cell (j := 1) rfl
  have ia2_6 := Ba6.cell (j := 2) rfl
  have la_6 := Ba6.lt
  have Bb6 := Bb6
  have ib0_6 := Bb6.cell (j := 0) rfl
  have ib1_6 := Bb6.cell (j := 1) rfl
  have ib2_6 := Bb6.cell (j := 2) rfl
  have lb_6 := Bb6.lt
  refine (makeSome_any _ l 110 6 _ (hC.ext (h1.trans (h2.trans (h3.trans (h4.trans (h5.trans h6)))))) (by omega) (by omega)).mono ?_; rintro e7 w7 ⟨vk, K, rfl, ok, hKl, h7⟩
  obtain ⟨ak, ck, rfl, _, _⟩ := ok.ints.val
  clear hKl
  clear if0_6 if1_6 if2_6 lf_6 iq0_6 iq1_6 iq2_6 lq_6 im0_6 im1_6 lm_6 ia0_6 ia1_6 ia2_6 la_6 ib0_6 ib1_6 ib2_6 lb_6
  have Bf7 := (Bf6.ext h7)
  clear Bf6
  have if0_7 := Bf7.cell (j := 0) rfl
  have if1_7 := Bf7.cell (j := 1) rfl
  have if2_7 := Bf7.cell (j := 2) rfl
  have lf_7 := Bf7.lt
  have Bq7 := (Bq6.ext h7)
  clear Bq6
  have iq0_7 := Bq7.cell (j := 0) rfl
  have iq1_7 := Bq7.cell (j := 1) rfl
  have iq2_7 := Bq7.cell (j := 2) rfl
  have lq_7 := Bq7.lt
  have Bm7 := (Bm6.ext h7)
  clear Bm6
  have im0_7 := Bm7.cell (j := 0) rfl
  have im1_7 := Bm7.cell (j := 1) rfl
  have lm_7 := Bm7.lt
  have Ba7 := (Ba6.ext h7)
  clear Ba6
  have ia0_7 := Ba7.cell (j := 0) rfl
  have ia1_7 := Ba7.cell (j := 1) rfl
  have ia2_7 := Ba7.cell (j := 2) rfl
  have la_7 := Ba7.lt
  have Bb7 := (Bb6.ext h7)
  clear Bb6
  have ib0_7 := Bb7.cell (j := 0) rfl
  have ib1_7 := Bb7.cell (j := 1) rfl
  have ib2_7 := Bb7.cell (j := 2) rfl
  have lb_7 := Bb7.lt
  go_wp2_with fail
  refine (contractPair_any HR.out Ta.out Tb.out K _ _ _ _ (oa.tens.ext (h4.trans (h5.trans (h6.trans h7)))) (ob.tens.ext (h6.trans h7)) ok.ints).mono ?_; rintro e8 w8 ⟨vx, rfl, ox, h8⟩
  obtain ⟨xp1, xn1, xc1, xp2, xn2, xc2, xp3, xn3, xc3, rfl⟩ := ox.shape
  clear if0_7 if1_7 if2_7 lf_7 iq0_7 iq1_7 iq2_7 lq_7 im0_7 im1_7 lm_7 ia0_7 ia1_7 ia2_7 la_7 ib0_7 ib1_7 ib2_7 lb_7
  have Bf8 := (Bf7.ext h8)
  clear Bf7
  have if0_8 := Bf8.cell (j := 0) rfl
  have if1_8 := Bf8.cell (j := 1) rfl
  have if2_8 := Bf8.cell (j := 2) rfl
  have lf_8 := Bf8.lt
  have Bq8 := (Bq7.ext h8)
  clear Bq7
  have iq0_8 := Bq8.cell (j := 0) rfl
  have iq1_8 := Bq8.cell (j := 1) rfl
  have iq2_8 := Bq8.cell (j := 2) rfl
  have lq_8 := Bq8.lt
  have Bm8 := (Bm7.ext h8)
  clear Bm7
  have im0_8 := Bm8.cell (j := 0) rfl
  have im1_8 := Bm8.cell (j := 1) rfl
  have lm_8 := Bm8.lt
  have Ba8 := (Ba7.ext h8)
  clear Ba7
  have ia0_8 := Ba8.cell (j := 0) rfl
  have ia1_8 := Ba8.cell (j := 1) rfl
  have ia2_8 := Ba8.cell (j := 2) rfl
  have la_8 := Ba8.lt
  have Bb8 := (Bb7.ext h8)
  clear Bb7
  have ib0_8 := Bb8.cell (j := 0) rfl
  have ib1_8 := Bb8.cell (j := 1) rfl
  have ib2_8 := Bb8.cell (j := 2) rfl
  have lb_8 := Bb8.lt
  go_wp2_with fail
  generalize hG9 : w8.alloc (.cells #[.slice xp1 xn1 xc1, .slice xp2 xn2 xc2, .slice xp3 xn3 xc3] 31) = w9
  have h9 : Ext w8 w9 := by rw [← hG9]; exact (Ext.refl _).alloc _
  have Bx9 : Blk w9 w8.heap.size 31 [.slice xp1 xn1 xc1, .slice xp2 xn2 xc2, .slice xp3 xn3 xc3] := by rw [← hG9]; exact Blk.new w8 #[.slice xp1 xn1 xc1, .slice xp2 xn2 xc2, .slice xp3 xn3 xc3] 31
  clear hG9
  clear if0_8 if1_8 if2_8 lf_8 iq0_8 iq1_8 iq2_8 lq_8 im0_8 im1_8 lm_8 ia0_8 ia1_8 ia2_8 la_8 ib0_8 ib1_8 ib2_8 lb_8
  have Bf9 := (Bf8.ext h9)
  clear Bf8
  have if0_9 := Bf9.cell (j := 0) rfl
  have if1_9 := Bf9.cell (j := 1) rfl
  have if2_9 := Bf9.cell (j := 2) rfl
  have lf_9 := Bf9.lt
  have Bq9 := (Bq8.ext h9)
  clear Bq8
  have iq0_9 := Bq9.cell (j := 0) rfl
  have iq1_9 := Bq9.cell (j := 1) rfl
  have iq2_9 := Bq9.cell (j := 2) rfl
  have lq_9 := Bq9.lt
  have Bm9 := (Bm8.ext h9)
  clear Bm8
  have im0_9 := Bm9.cell (j := 0) rfl
  have im1_9 := Bm9.cell (j := 1) rfl
  have lm_9 := Bm9.lt
  have Ba9 := (Ba8.ext h9)
  clear Ba8
  have ia0_9 := Ba9.cell (j := 0) rfl
  have ia1_9 := Ba9.cell (j := 1) rfl
  have ia2_9 := Ba9.cell (j := 2) rfl
  have la_9 := Ba9.lt
  have Bb9 := (Bb8.ext h9)
  clear Bb8
  have ib0_9 := Bb9.cell (j := 0) rfl
  have ib1_9 := Bb9.cell (j := 1) rfl
  have ib2_9 := Bb9.cell (j := 2) rfl
  have lb_9 := Bb9.lt
  have Bx9 := Bx9
  have ix0_9 := Bx9.cell (j := 0) rfl
  have ix1_9 := Bx9.cell (j := 1) rfl
  have ix2_9 := Bx9.cell (j := 2) rfl
  have lx_9 := Bx9.lt
  have TX := Lib.hid (contr_isT HR.out Ta.out Tb.out K)
  refine (mapTensor_any H HH.out Ta.out _ _ (oa.tens.ext (h4.trans (h5.trans (h6.trans (h7.trans (h8.trans h9))))))).mono ?_; rintro e10 w10 ⟨vu, rfl, ou, h10⟩
  obtain ⟨up1, un1, uc1, up2, un2, uc2, up3, un3, uc3, rfl⟩ := ou.shape
  clear if0_9 if1_9 if2_9 lf_9 iq0_9 iq1_9 iq2_9 lq_9 im0_9 im1_9 lm_9 ia0_9 ia1_9 ia2_9 la_9 ib0_9 ib1_9 ib2_9 lb_9 ix0_9 ix1_9 ix2_9 lx_9
  have Bf10 := (Bf9.ext h10)
  clear Bf9
  have if0_10 := Bf10.cell (j := 0) rfl
  have if1_10 := Bf10.cell (j := 1) rfl
  have if2_10 := Bf10.cell (j := 2) rfl
  have lf_10 := Bf10.lt
  have Bq10 := (Bq9.ext h10)
  clear Bq9
  have iq0_10 := Bq10.cell (j := 0) rfl
  have iq1_10 := Bq10.cell (j := 1) rfl
  have iq2_10 := Bq10.cell (j := 2) rfl
  have lq_10 := Bq10.lt
  have Bm10 := (Bm9.ext h10)
  clear Bm9
  have im0_10 := Bm10.cell (j := 0) rfl
  have im1_10 := Bm10.cell (j := 1) rfl
  have lm_10 := Bm10.lt
  have Ba10 := (Ba9.ext h10)
  clear Ba9
  have ia0_10 := Ba10.cell (j := 0) rfl
  have ia1_10 := Ba10.cell (j := 1) rfl
  have ia2_10 := Ba10.cell (j := 2) rfl
  have la_10 := Ba10.lt
  have Bb10 := (Bb9.ext h10)
  clear Bb9
  have ib0_10 := Bb10.cell (j := 0) rfl
  have ib1_10 := Bb10.cell (j := 1) rfl
  have ib2_10 := Bb10.cell (j := 2) rfl
  have lb_10 := Bb10.lt
  have Bx10 := (Bx9.ext h10)
  clear Bx9
  have ix0_10 := Bx10.cell (j := 0) rfl
  have ix1_10 := Bx10.cell (j := 1) rfl
  have ix2_10 := Bx10.cell (j := 2) rfl
  have lx_10 := Bx10.lt
  go_wp2_with fail
  generalize hG11 : w10.alloc (.cells #[.slice up1 un1 uc1, .slice up2 un2 uc2, .slice up3 un3 uc3] 31) = w11
  have h11 : Ext w10 w11 := by rw [← hG11]; exact (Ext.refl _).alloc _
  have Bu11 : Blk w11 w10.heap.size 31 [.slice up1 un1 uc1, .slice up2 un2 uc2, .slice up3 un3 uc3] := by rw [← hG11]; exact Blk.new w10 #[.slice up1 un1 uc1, .slice up2 un2 uc2, .slice up3 un3 uc3] 31
  clear hG11
  clear if0_10 if1_10 if2_10 lf_10 iq0_10 iq1_10 iq2_10 lq_10 im0_10 im1_10 lm_10 ia0_10 ia1_10 ia2_10 la_10 ib0_10 ib1_10 ib2_10 lb_10 ix0_10 ix1_10 ix2_10 lx_10
  have Bf11 := (Bf10.ext h11)
  clear Bf10
  have if0_11 := Bf11.cell (j := 0) rfl
  have if1_11 := Bf11.cell (j := 1) rfl
  have if2_11 := Bf11.cell (j := 2) rfl
  have lf_11 := Bf11.lt
  have Bq11 := (Bq10.ext h11)
  clear Bq10
  have iq0_11 := Bq11.cell (j := 0) rfl
  have iq1_11 := Bq11.cell (j := 1) rfl
  have iq2_11 := Bq11.cell (j := 2) rfl
  have lq_11 := Bq11.lt
  have Bm11 := (Bm10.ext h11)
  clear Bm10
  have im0_11 := Bm11.cell (j := 0) rfl
  have im1_11 := Bm11.cell (j := 1) rfl
  have lm_11 := Bm11.lt
  have Ba11 := (Ba10.ext h11)
  clear Ba10
  have ia0_11 := Ba11.cell (j := 0) rfl
  have ia1_11 := Ba11.cell (j := 1) rfl
  have ia2_11 := Ba11.cell (j := 2) rfl
  have la_11 := Ba11.lt
  have Bb11 := (Bb10.ext h11)
  clear Bb10
  have ib0_11 := Bb11.cell (j := 0) rfl
  have ib1_11 := Bb11.cell (j := 1) rfl
  have ib2_11 := Bb11.cell (j := 2) rfl
  have lb_11 := Bb11.lt
  have Bx11 := (Bx10.ext h11)
  clear Bx10
  have ix0_11 := Bx11.cell (j := 0) rfl
  have ix1_11 := Bx11.cell (j := 1) rfl
  have ix2_11 := Bx11.cell (j := 2) rfl
  have lx_11 := Bx11.lt
  have Bu11 := Bu11
  have iu0_11 := Bu11.cell (j := 0) rfl
  have iu1_11 := Bu11.cell (j := 1) rfl
  have iu2_11 := Bu11.cell (j := 2) rfl
  have lu_11 := Bu11.lt
  refine (mapTensor_any H HH.out Tb.out _ _ (ob.tens.ext (h6.trans (h7.trans (h8.trans (h9.trans (h10.trans h11))))))).mono ?_; rintro e12 w12 ⟨vv, rfl, ov, h12⟩
  obtain ⟨vp1, vn1, vc1, vp2, vn2, vc2, vp3, vn3, vc3, rfl⟩ := ov.shape
  clear if0_11 if1_11 if2_11 lf_11 iq0_11 iq1_11 iq2_11 lq_11 im0_11 im1_11 lm_11 ia0_11 ia1_11 ia2_11 la_11 ib0_11 ib1_11 ib2_11 lb_11 ix0_11 ix1_11 ix2_11 lx_11 iu0_11 iu1_11 iu2_11 lu_11
  have Bf12 := (Bf11.ext h12)
  clear Bf11
  have if0_12 := Bf12.cell (j := 0) rfl
  have if1_12 := Bf12.cell (j := 1) rfl
  have if2_12 := Bf12.cell (j := 2) rfl
  have lf_12 := Bf12.lt
  have Bq12 := (Bq11.ext h12)
  clear Bq11
  have iq0_12 := Bq12.cell (j := 0) rfl
  have iq1_12 := Bq12.cell (j := 1) rfl
  have iq2_12 := Bq12.cell (j := 2) rfl
  have lq_12 := Bq12.lt
  have Bm12 := (Bm11.ext h12)
  clear Bm11
  have im0_12 := Bm12.cell (j := 0) rfl
  have im1_12 := Bm12.cell (j := 1) rfl
  have lm_12 := Bm12.lt
  have Ba12 := (Ba11.ext h12)
  clear Ba11
  have ia0_12 := Ba12.cell (j := 0) rfl
  have ia1_12 := Ba12.cell (j := 1) rfl
  have ia2_12 := Ba12.cell (j := 2) rfl
  have la_12 := Ba12.lt
  have Bb12 := (Bb11.ext h12)
  clear Bb11
  have ib0_12 := Bb12.cell (j := 0) rfl
  have ib1_12 := Bb12.cell (j := 1) rfl
  have ib2_12 := Bb12.cell (j := 2) rfl
  have lb_12 := Bb12.lt
  have Bx12 := (Bx11.ext h12)
  clear Bx11
  have ix0_12 := Bx12.cell (j := 0) rfl
  have ix1_12 := Bx12.cell (j := 1) rfl
  have ix2_12 := Bx12.cell (j := 2) rfl
  have lx_12 := Bx12.lt
  have Bu12 := (Bu11.ext h12)
  clear Bu11
  have iu0_12 := Bu12.cell (j := 0) rfl
  have iu1_12 := Bu12.cell (j := 1) rfl
  have iu2_12 := Bu12.cell (j := 2) rfl
  have lu_12 := Bu12.lt
  go_wp2_with fail
  generalize hG13 : w12.alloc (.cells #[.slice vp1 vn1 vc1, .slice vp2 vn2 vc2, .slice vp3 vn3 vc3] 31) = w13
  have h13 : Ext w12 w13 := by rw [← hG13]; exact (Ext.refl _).alloc _
  have Bv13 : Blk w13 w12.heap.size 31 [.slice vp1 vn1 vc1, .slice vp2 vn2 vc2, .slice vp3 vn3 vc3] := by rw [← hG13]; exact Blk.new w12 #[.slice vp1 vn1 vc1, .slice vp2 vn2 vc2, .slice vp3 vn3 vc3] 31
  clear hG13
  clear if0_12 if1_12 if2_12 lf_12 iq0_12 iq1_12 iq2_12 lq_12 im0_12 im1_12 lm_12 ia0_12 ia1_12 ia2_12 la_12 ib0_12 ib1_12 ib2_12 lb_12 ix0_12 ix1_12 ix2_12 lx_12 iu0_12 iu1_12 iu2_12 lu_12
  have Bf13 := (Bf12.ext h13)
  clear Bf12
  have if0_13 := Bf13.cell (j := 0) rfl
  have if1_13 := Bf13.cell (j := 1) rfl
  have if2_13 := Bf13.cell (j := 2) rfl
  have lf_13 := Bf13.lt
  have Bq13 := (Bq12.ext h13)
  clear Bq12
  have iq0_13 := Bq13.cell (j := 0) rfl
  have iq1_13 := Bq13.cell (j := 1) rfl
  have iq2_13 := Bq13.cell (j := 2) rfl
  have lq_13 := Bq13.lt
  have Bm13 := (Bm12.ext h13)
  clear Bm12
  have im0_13 := Bm13.cell (j := 0) rfl
  have im1_13 := Bm13.cell (j := 1) rfl
  have lm_13 := Bm13.lt
  have Ba13 := (Ba12.ext h13)
  clear Ba12
  have ia0_13 := Ba13.cell (j := 0) rfl
  have ia1_13 := Ba13.cell (j := 1) rfl
  have ia2_13 := Ba13.cell (j := 2) rfl
  have la_13 := Ba13.lt
  have Bb13 := (Bb12.ext h13)
  clear Bb12
  have ib0_13 := Bb13.cell (j := 0) rfl
  have ib1_13 := Bb13.cell (j := 1) rfl
  have ib2_13 := Bb13.cell (j := 2) rfl
  have lb_13 := Bb13.lt
  have Bx13 := (Bx12.ext h13)
  clear Bx12
  have ix0_13 := Bx13.cell (j := 0) rfl
  have ix1_13 := Bx13.cell (j := 1) rfl
  have ix2_13 := Bx13.cell (j := 2) rfl
  have lx_13 := Bx13.lt
  have Bu13 := (Bu12.ext h13)
  clear Bu12
  have iu0_13 := Bu13.cell (j := 0) rfl
  have iu1_13 := Bu13.cell (j := 1) rfl
  have iu2_13 := Bu13.cell (j := 2) rfl
  have lu_13 := Bu13.lt
  have Bv13 := Bv13
  have iv0_13 := Bv13.cell (j := 0) rfl
  have iv1_13 := Bv13.cell (j := 1) rfl
  have iv2_13 := Bv13.cell (j := 2) rfl
  have lv_13 := Bv13.lt
  have TU := Lib.hid (map_isT H Ta.out)
  have TV := Lib.hid (map_isT H Tb.out)
  refine (contractPair_any HR2.out TU.out TV.out K _ _ _ _ (ou.tens.ext (h11.trans (h12.trans h13))) (ov.tens.ext h13) (ok.ints.ext (h8.trans (h9.trans (h10.trans (h11.trans (h12.trans h13))))))).mono ?_; rintro e14 w14 ⟨vy, rfl, oy, h14⟩
  obtain ⟨yp1, yn1, yc1, yp2, yn2, yc2, yp3, yn3, yc3, rfl⟩ := oy.shape
  clear if0_13 if1_13 if2_13 lf_13 iq0_13 iq1_13 iq2_13 lq_13 im0_13 im1_13 lm_13 ia0_13 ia1_13 ia2_13 la_13 ib0_13 ib1_13 ib2_13 lb_13 ix0_13 ix1_13 ix2_13 lx_13 iu0_13 iu1_13 iu2_13 lu_13 iv0_13 iv1_13 iv2_13 lv_13
  have Bf14 := (Bf13.ext h14)
  clear Bf13
  have if0_14 := Bf14.cell (j := 0) rfl
  have if1_14 := Bf14.cell (j := 1) rfl
  have if2_14 := Bf14.cell (j := 2) rfl
  have lf_14 := Bf14.lt
  have Bq14 := (Bq13.ext h14)
  clear Bq13
  have iq0_14 := Bq14.cell (j := 0) rfl
  have iq1_14 := Bq14.cell (j := 1) rfl
  have iq2_14 := Bq14.cell (j := 2) rfl
  have lq_14 := Bq14.lt
  have Bm14 := (Bm13.ext h14)
  clear Bm13
  have im0_14 := Bm14.cell (j := 0) rfl
  have im1_14 := Bm14.cell (j := 1) rfl
  have lm_14 := Bm14.lt
  have Ba14 := (Ba13.ext h14)
  clear Ba13
  have ia0_14 := Ba14.cell (j := 0) rfl
  have ia1_14 := Ba14.cell (j := 1) rfl
  have ia2_14 := Ba14.cell (j := 2) rfl
  have la_14 := Ba14.lt
  have Bb14 := (Bb13.ext h14)
  clear Bb13
  have ib0_14 := Bb14.cell (j := 0) rfl
  have ib1_14 := Bb14.cell (j := 1) rfl
  have ib2_14 := Bb14.cell (j := 2) rfl
  have lb_14 := Bb14.lt
  have Bx14 := (Bx13.ext h14)
  clear Bx13
  have ix0_14 := Bx14.cell (j := 0) rfl
  have ix1_14 := Bx14.cell (j := 1) rfl
  have ix2_14 := Bx14.cell (j := 2) rfl
  have lx_14 := Bx14.lt
  have Bu14 := (Bu13.ext h14)
  clear Bu13
  have iu0_14 := Bu14.cell (j := 0) rfl
  have iu1_14 := Bu14.cell (j := 1) rfl
  have iu2_14 := Bu14.cell (j := 2) rfl
  have lu_14 := Bu14.lt
  have Bv14 := (Bv13.ext h14)
  clear Bv13
  have iv0_14 := Bv14.cell (j := 0) rfl
  have iv1_14 := Bv14.cell (j := 1) rfl
  have iv2_14 := Bv14.cell (j := 2) rfl
  have lv_14 := Bv14.lt
  go_wp2_with fail
  generalize hG15 : w14.alloc (.cells #[.slice yp1 yn1 yc1, .slice yp2 yn2 yc2, .slice yp3 yn3 yc3] 31) = w15
  have h15 : Ext w14 w15 := by rw [← hG15]; exact (Ext.refl _).alloc _
  have By15 : Blk w15 w14.heap.size 31 [.slice yp1 yn1 yc1, .slice yp2 yn2 yc2, .slice yp3 yn3 yc3] := by rw [← hG15]; exact Blk.new w14 #[.slice yp1 yn1 yc1, .slice yp2 yn2 yc2, .slice yp3 yn3 yc3] 31
  clear hG15
  clear if0_14 if1_14 if2_14 lf_14 iq0_14 iq1_14 iq2_14 lq_14 im0_14 im1_14 lm_14 ia0_14 ia1_14 ia2_14 la_14 ib0_14 ib1_14 ib2_14 lb_14 ix0_14 ix1_14 ix2_14 lx_14 iu0_14 iu1_14 iu2_14 lu_14 iv0_14 iv1_14 iv2_14 lv_14
  have Bf15 := (Bf14.ext h15)
  clear Bf14
  have if0_15 := Bf15.cell (j := 0) rfl
  have if1_15 := Bf15.cell (j := 1) rfl
  have if2_15 := Bf15.cell (j := 2) rfl
  have lf_15 := Bf15.lt
  have Bq15 := (Bq14.ext h15)
  clear Bq14
  have iq0_15 := Bq15.cell (j := 0) rfl
  have iq1_15 := Bq15.cell (j := 1) rfl
  have iq2_15 := Bq15.cell (j := 2) rfl
  have lq_15 := Bq15.lt
  have Bm15 := (Bm14.ext h15)
  clear Bm14
  have im0_15 := Bm15.cell (j := 0) rfl
  have im1_15 := Bm15.cell (j := 1) rfl
  have lm_15 := Bm15.lt
  have Ba15 := (Ba14.ext h15)
  clear Ba14
  have ia0_15 := Ba15.cell (j := 0) rfl
  have ia1_15 := Ba15.cell (j := 1) rfl
  have ia2_15 := Ba15.cell (j := 2) rfl
  have la_15 := Ba15.lt
  have Bb15 := (Bb14.ext h15)
  clear Bb14
  have ib0_15 := Bb15.cell (j := 0) rfl
  have ib1_15 := Bb15.cell (j := 1) rfl
  have ib2_15 := Bb15.cell (j := 2) rfl
  have lb_15 := Bb15.lt
  have Bx15 := (Bx14.ext h15)
  clear Bx14
  have ix0_15 := Bx15.cell (j := 0) rfl
  have ix1_15 := Bx15.cell (j := 1) rfl
  have ix2_15 := Bx15.cell (j := 2) rfl
  have lx_15 := Bx15.lt
  have Bu15 := (Bu14.ext h15)
  clear Bu14
  have iu0_15 := Bu15.cell (j := 0) rfl
  have iu1_15 := Bu15.cell (j := 1) rfl
  have iu2_15 := Bu15.cell (j := 2) rfl
  have lu_15 := Bu15.lt
  have Bv15 := (Bv14.ext h15)
  clear Bv14
  have iv0_15 := Bv15.cell (j := 0) rfl
  have iv1_15 := Bv15.cell (j := 1) rfl
  have iv2_15 := Bv15.cell (j := 2) rfl
  have lv_15 := Bv15.lt
  have By15 := By15
  have iy0_15 := By15.cell (j := 0) rfl
  have iy1_15 := By15.cell (j := 1) rfl
  have iy2_15 := By15.cell (j := 2) rfl
  have ly_15 := By15.lt
  refine (mapTensor_any H HH.out TX.out _ _ (ox.tens.ext (h9.trans (h10.trans (h11.trans (h12.trans (h13.trans (h14.trans h15)))))))).mono ?_; rintro e16 w16 ⟨vz, rfl, oz, h16⟩
  obtain ⟨zp1, zn1, zc1, zp2, zn2, zc2, zp3, zn3, zc3, rfl⟩ := oz.shape
  clear if0_15 if1_15 if2_15 lf_15 iq0_15 iq1_15 iq2_15 lq_15 im0_15 im1_15 lm_15 ia0_15 ia1_15 ia2_15 la_15 ib0_15 ib1_15 ib2_15 lb_15 ix0_15 ix1_15 ix2_15 lx_15 iu0_15 iu1_15 iu2_15 lu_15 iv0_15 iv1_15 iv2_15 lv_15 iy0_15 iy1_15 iy2_15 ly_15
  have Bf16 := (Bf15.ext h16)
  clear Bf15
  have if0_16 := Bf16.cell (j := 0) rfl
  have if1_16 := Bf16.cell (j := 1) rfl
  have if2_16 := Bf16.cell (j := 2) rfl
  have lf_16 := Bf16.lt
  have Bq16 := (Bq15.ext h16)
  clear Bq15
  have iq0_16 := Bq16.cell (j := 0) rfl
  have iq1_16 := Bq16.cell (j := 1) rfl
  have iq2_16 := Bq16.cell (j := 2) rfl
  have lq_16 := Bq16.lt
  have Bm16 := (Bm15.ext h16)
  clear Bm15
  have im0_16 := Bm16.cell (j := 0) rfl
  have im1_16 := Bm16.cell (j := 1) rfl
  have lm_16 := Bm16.lt
  have Ba16 := (Ba15.ext h16)
  clear Ba15
  have ia0_16 := Ba16.cell (j := 0) rfl
  have ia1_16 := Ba16.cell (j := 1) rfl
  have ia2_16 := Ba16.cell (j := 2) rfl
  have la_16 := Ba16.lt
  have Bb16 := (Bb15.ext h16)
  clear Bb15
  have ib0_16 := Bb16.cell (j := 0) rfl
  have ib1_16 := Bb16.cell (j := 1) rfl
  have ib2_16 := Bb16.cell (j := 2) rfl
  have lb_16 := Bb16.lt
  have Bx16 := (Bx15.ext h16)
  clear Bx15
  have ix0_16 := Bx16.cell (j := 0) rfl
  have ix1_16 := Bx16.cell (j := 1) rfl
  have ix2_16 := Bx16.cell (j := 2) rfl
  have lx_16 := Bx16.lt
  have Bu16 := (Bu15.ext h16)
  clear Bu15
  have iu0_16 := Bu16.cell (j := 0) rfl
  have iu1_16 := Bu16.cell (j := 1) rfl
  have iu2_16 := Bu16.cell (j := 2) rfl
  have lu_16 := Bu16.lt
  have Bv16 := (Bv15.ext h16)
  clear Bv15
  have iv0_16 := Bv16.cell (j := 0) rfl
  have iv1_16 := Bv16.cell (j := 1) rfl
  have iv2_16 := Bv16.cell (j := 2) rfl
  have lv_16 := Bv16.lt
  have By16 := (By15.ext h16)
  clear By15
  have iy0_16 := By16.cell (j := 0) rfl
  have iy1_16 := By16.cell (j := 1) rfl
  have iy2_16 := By16.cell (j := 2) rfl
  have ly_16 := By16.lt
  go_wp2_with fail
  generalize hG17 : w16.alloc (.cells #[.slice zp1 zn1 zc1, .slice zp2 zn2 zc2, .slice zp3 zn3 zc3] 31) = w17
  have h17 : Ext w16 w17 := by rw [← hG17]; exact (Ext.refl _).alloc _
  have Bz17 : Blk w17 w16.heap.size 31 [.slice zp1 zn1 zc1, .slice zp2 zn2 zc2, .slice zp3 zn3 zc3] := by rw [← hG17]; exact Blk.new w16 #[.slice zp1 zn1 zc1, .slice zp2 zn2 zc2, .slice zp3 zn3 zc3] 31
  clear hG17
  clear if0_16 if1_16 if2_16 lf_16 iq0_16 iq1_16 iq2_16 lq_16 im0_16 im1_16 lm_16 ia0_16 ia1_16 ia2_16 la_16 ib0_16 ib1_16 ib2_16 lb_16 ix0_16 ix1_16 ix2_16 lx_16 iu0_16 iu1_16 iu2_16 lu_16 iv0_16 iv1_16 iv2_16 lv_16 iy0_16 iy1_16 iy2_16 ly_16
  have Bf17 := (Bf16.ext h17)
  clear Bf16
  have if0_17 := Bf17.cell (j := 0) rfl
  have if1_17 := Bf17.cell (j := 1) rfl
  have if2_17 := Bf17.cell (j := 2) rfl
  have lf_17 := Bf17.lt
  have Bq17 := (Bq16.ext h17)
  clear Bq16
  have iq0_17 := Bq17.cell (j := 0) rfl
  have iq1_17 := Bq17.cell (j := 1) rfl
  have iq2_17 := Bq17.cell (j := 2) rfl
  have lq_17 := Bq17.lt
  have Bm17 := (Bm16.ext h17)
  clear Bm16
  have im0_17 := Bm17.cell (j := 0) rfl
  have im1_17 := Bm17.cell (j := 1) rfl
  have lm_17 := Bm17.lt
  have Ba17 := (Ba16.ext h17)
  clear Ba16
  have ia0_17 := Ba17.cell (j := 0) rfl
  have ia1_17 := Ba17.cell (j := 1) rfl
  have ia2_17 := Ba17.cell (j := 2) rfl
  have la_17 := Ba17.lt
  have Bb17 := (Bb16.ext h17)
  clear Bb16
  have ib0_17 := Bb17.cell (j := 0) rfl
  have ib1_17 := Bb17.cell (j := 1) rfl
  have ib2_17 := Bb17.cell (j := 2) rfl
  have lb_17 := Bb17.lt
  have Bx17 := (Bx16.ext h17)
  clear Bx16
  have ix0_17 := Bx17.cell (j := 0) rfl
  have ix1_17 := Bx17.cell (j := 1) rfl
  have ix2_17 := Bx17.cell (j := 2) rfl
  have lx_17 := Bx17.lt
  have Bu17 := (Bu16.ext h17)
  clear Bu16
  have iu0_17 := Bu17.cell (j := 0) rfl
  have iu1_17 := Bu17.cell (j := 1) rfl
  have iu2_17 := Bu17.cell (j := 2) rfl
  have lu_17 := Bu17.lt
  have Bv17 := (Bv16.ext h17)
  clear Bv16
  have iv0_17 := Bv17.cell (j := 0) rfl
  have iv1_17 := Bv17.cell (j := 1) rfl
  have iv2_17 := Bv17.cell (j := 2) rfl
  have lv_17 := Bv17.lt
  have By17 := (By16.ext h17)
  clear By16
  have iy0_17 := By17.cell (j := 0) rfl
  have iy1_17 := By17.cell (j := 1) rfl
  have iy2_17 := By17.cell (j := 2) rfl
  have ly_17 := By17.lt
  have Bz17 := Bz17
  have iz0_17 := Bz17.cell (j := 0) rfl
  have iz1_17 := Bz17.cell (j := 1) rfl
  have iz2_17 := Bz17.cell (j := 2) rfl
  have lz_17 := Bz17.lt
  have HC := Lib.hid (contrXs_hom H HR.out HR2.out dimOf a b K xsa xsb)
  refine (same_same _ _ _ _ _ _ _ _ _ (oy.tens.ext (h15.trans (h16.trans h17))) (oz.tens.ext h17) rfl rfl (by rw [HC.out])).mono ?_; rintro e18 w18 ⟨rfl, h18⟩
  clear if0_17 if1_17 if2_17 lf_17 iq0_17 iq1_17 iq2_17 lq_17 im0_17 im1_17 lm_17 ia0_17 ia1_17 ia2_17 la_17 ib0_17 ib1_17 ib2_17 lb_17 ix0_17 ix1_17 ix2_17 lx_17 iu0_17 iu1_17 iu2_17 lu_17 iv0_17 iv1_17 iv2_17 lv_17 iy0_17 iy1_17 iy2_17 ly_17 iz0_17 iz1_17 iz2_17 lz_17
  have Bf18 := (Bf17.ext h18)
  clear Bf17
  have if0_18 := Bf18.cell (j := 0) rfl
  have if1_18 := Bf18.cell (j := 1) rfl
  have if2_18 := Bf18.cell (j := 2) rfl
  have lf_18 := Bf18.lt
  have Bq18 := (Bq17.ext h18)
  clear Bq17
  have iq0_18 := Bq18.cell (j := 0) rfl
  have iq1_18 := Bq18.cell (j := 1) rfl
  have iq2_18 := Bq18.cell (j := 2) rfl
  have lq_18 := Bq18.lt
  have Bm18 := (Bm17.ext h18)
  clear Bm17
  have im0_18 := Bm18.cell (j := 0) rfl
  have im1_18 := Bm18.cell (j := 1) rfl
  have lm_18 := Bm18.lt
  have Ba18 := (Ba17.ext h18)
  clear Ba17
  have ia0_18 := Ba18.cell (j := 0) rfl
  have ia1_18 := Ba18.cell (j := 1) rfl
  have ia2_18 := Ba18.cell (j := 2) rfl
  have la_18 := Ba18.lt
  have Bb18 := (Bb17.ext h18)
  clear Bb17
  have ib0_18 := Bb18.cell (j := 0) rfl
  have ib1_18 := Bb18.cell (j := 1) rfl
  have ib2_18 := Bb18.cell (j := 2) rfl
  have lb_18 := Bb18.lt
  have Bx18 := (Bx17.ext h18)
  clear Bx17
  have ix0_18 := Bx18.cell (j := 0) rfl
  have ix1_18 := Bx18.cell (j := 1) rfl
  have ix2_18 := Bx18.cell (j := 2) rfl
  have lx_18 := Bx18.lt
  have Bu18 := (Bu17.ext h18)
  clear Bu17
  have iu0_18 := Bu18.cell (j := 0) rfl
  have iu1_18 := Bu18.cell (j := 1) rfl
  have iu2_18 := Bu18.cell (j := 2) rfl
  have lu_18 := Bu18.lt
  have Bv18 := (Bv17.ext h18)
  clear Bv17
  have iv0_18 := Bv18.cell (j := 0) rfl
  have iv1_18 := Bv18.cell (j := 1) rfl
  have iv2_18 := Bv18.cell (j := 2) rfl
  have lv_18 := Bv18.lt
  have By18 := (By17.ext h18)
  clear By17
  have iy0_18 := By18.cell (j := 0) rfl
  have iy1_18 := By18.cell (j := 1) rfl
  have iy2_18 := By18.cell (j := 2) rfl
  have ly_18 := By18.lt
  have Bz18 := (Bz17.ext h18)
  clear Bz17
  have iz0_18 := Bz18.cell (j := 0) rfl
  have iz1_18 := Bz18.cell (j := 1) rfl
  have iz2_18 := Bz18.cell (j := 2) rfl
  have lz_18 := Bz18.lt
  go_wp2
  go_ret
  exact ⟨rfl, (h1.trans (h2.trans (h3.trans (h4.trans (h5.trans (h6.trans (h7.trans (h8.trans (h9.trans (h10.trans (h11.trans (h12.trans (h13.trans (h14.trans (h15.trans (h16.trans (h17.trans h18)))))))))))))))))⟩
end Go.Proofs.Ytabeciopggofkaa
