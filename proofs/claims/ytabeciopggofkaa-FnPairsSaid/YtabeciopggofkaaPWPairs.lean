/- The law 'FnPairs', walked. -/
import Derived.Deep.RegionHeld3
import Derived.Test.YtabeciopggofkaaPBase
import Derived.Test.YtabeciopggofkaaPContrW
import Derived.Test.YtabeciopggofkaaPSortT
import Derived.Test.YtabeciopggofkaaPSomeW
import Derived.Test.YtabeciopggofkaaPDrawE
import Derived.Test.YtabeciopggofkaaPPairsP
namespace Go.Proofs.Ytabeciopggofkaa
open Go.RowKit
set_option linter.unusedSimpArgs false
set_option linter.unusedVariables false


set_option maxRecDepth 100000 in
set_option maxHeartbeats 8000000 in
theorem walkFnPairs (v : Value) (l : List Int) (w : World) (hl : ByteS w v l) (hall : ∀ x ∈ l, 0 ≤ x ∧ x ≤ 255) :
    Calls Try.prog 4 #[v] w fun e w' => e = .returned (.bool true) ∧ Ext w w' := by
  obtain ⟨ca, cap, rfl, hc1, hc2⟩ := hl.val
  by_cases big : 1048576 < l.length
  · go_enter Try.func4, Try.ntmps4
    go_wp2
    go_ret
    exact ⟨rfl, (by repeat' (first | (with_reducible exact Ext.refl _) | (with_reducible assumption) | (with_reducible apply Ext.alloc) | (with_reducible apply Ext.drew) | (with_reducible apply Ext.drewN) | (refine Ext.setAt ?_ (by omega) _ _) | (refine Ext.trans ?_ (by assumption))))⟩
  have hC : Code w (.slice ca l.length cap) l := ⟨hl, hall, by omega⟩
  clear hall hl
  go_enter Try.func4, Try.ntmps4
  go_wp2_with fail
  refine (makeRing_any _ l 0 _ hC (by omega)).mono ?_; rintro e1 w1 ⟨k, p, n, rfl, hd, h1⟩
  have HR := Lib.hid (drawn_ok hd); clear hd
  go_wp2_with fail
  generalize hG2 : w1.alloc (.cells #[.int .i64 k, .int .i64 p, .int .i64 n] 24) = w2
  have h2 : Ext w1 w2 := by rw [← hG2]; exact (Ext.refl _).alloc _
  have Br2 : Blk w2 w1.heap.size 24 [.int .i64 k, .int .i64 p, .int .i64 n] := by rw [← hG2]; exact Blk.new w1 #[.int .i64 k, .int .i64 p, .int .i64 n] 24
  clear hG2
  have Br2 := Br2
  have ir0_2 := Br2.cell (j := 0) rfl
  have ir1_2 := Br2.cell (j := 1) rfl
  have ir2_2 := Br2.cell (j := 2) rfl
  have lr_2 := Br2.lt
  refine (makeTensor_any _ l 10 k p n HR.out _ (hC.ext (h1.trans h2)) (by omega)).mono ?_; rintro e3 w3 ⟨vTa, a, Da, Xa, rfl, oa, dT, h3⟩
  obtain ⟨xsa, rfl, rfl, hT⟩ := drawn_isT HR.out dT
  have Ta := Lib.hid hT; clear dT hT
  obtain ⟨ap1, an1, ac1, ap2, an2, ac2, ap3, an3, ac3, rfl⟩ := oa.shape
  clear ir0_2 ir1_2 ir2_2 lr_2
  have Br3 := (Br2.ext h3)
  clear Br2
  have ir0_3 := Br3.cell (j := 0) rfl
  have ir1_3 := Br3.cell (j := 1) rfl
  have ir2_3 := Br3.cell (j := 2) rfl
  have lr_3 := Br3.lt
  go_wp2_with fail
  generalize hG4 : w3.alloc (.cells #[.slice ap1 an1 ac1, .slice ap2 an2 ac2, .slice ap3 an3 ac3] 31) = w4
  have h4 : Ext w3 w4 := by rw [← hG4]; exact (Ext.refl _).alloc _
  have Ba4 : Blk w4 w3.heap.size 31 [.slice ap1 an1 ac1, .slice ap2 an2 ac2, .slice ap3 an3 ac3] := by rw [← hG4]; exact Blk.new w3 #[.slice ap1 an1 ac1, .slice ap2 an2 ac2, .slice ap3 an3 ac3] 31
  clear hG4
  clear ir0_3 ir1_3 ir2_3 lr_3
  have Br4 := (Br3.ext h4)
  clear Br3
  have ir0_4 := Br4.cell (j := 0) rfl
  have ir1_4 := Br4.cell (j := 1) rfl
  have ir2_4 := Br4.cell (j := 2) rfl
  have lr_4 := Br4.lt
  have Ba4 := Ba4
  have ia0_4 := Ba4.cell (j := 0) rfl
  have ia1_4 := Ba4.cell (j := 1) rfl
  have ia2_4 := Ba4.cell (j := 2) rfl
  have la_4 := Ba4.lt
  refine (makeTensor_any _ l 60 k p n HR.out _ (hC.ext (h1.trans (h2.trans (h3.trans h4)))) (by omega)).mono ?_; rintro e5 w5 ⟨vTb, b, Db, Xb, rfl, ob, dT, h5⟩
  obtain ⟨xsb, rfl, rfl, hT⟩ := drawn_isT HR.out dT
  have Tb := Lib.hid hT; clear dT hT
  obtain ⟨bp1, bn1, bc1, bp2, bn2, bc2, bp3, bn3, bc3, rfl⟩ := ob.shape
  clear ir0_4 ir1_4 ir2_4 lr_4 ia0_4 ia1_4 ia2_4 la_4
  have Br5 := (Br4.ext h5)
  clear Br4
  have ir0_5 := Br5.cell (j := 0) rfl
  have ir1_5 := Br5.cell (j := 1) rfl
  have ir2_5 := Br5.cell (j := 2) rfl
  have lr_5 := Br5.lt
  have Ba5 := (Ba4.ext h5)
  clear Ba4
  have ia0_5 := Ba5.cell (j := 0) rfl
  have ia1_5 := Ba5.cell (j := 1) rfl
  have ia2_5 := Ba5.cell (j := 2) rfl
  have la_5 := Ba5.lt
  go_wp2_with fail
  generalize hG6 : w5.alloc (.cells #[.slice bp1 bn1 bc1, .slice bp2 bn2 bc2, .slice bp3 bn3 bc3] 31) = w6
  have h6 : Ext w5 w6 := by rw [← hG6]; exact (Ext.refl _).alloc _
  have Bb6 : Blk w6 w5.heap.size 31 [.slice bp1 bn1 bc1, .slice bp2 bn2 bc2, .slice bp3 bn3 bc3] := by rw [← hG6]; exact Blk.new w5 #[.slice bp1 bn1 bc1, .slice bp2 bn2 bc2, .slice bp3 bn3 bc3] 31
  clear hG6
  clear ir0_5 ir1_5 ir2_5 lr_5 ia0_5 ia1_5 ia2_5 la_5
  have Br6 := (Br5.ext h6)
  clear Br5
  have ir0_6 := Br6.cell (j := 0) rfl
  have ir1_6 := Br6.cell (j := 1) rfl
  have ir2_6 := Br6.cell (j := 2) rfl
  have lr_6 := Br6.lt
  have Ba6 := (Ba5.ext h6)
  clear Ba5
  have ia0_6 := Ba6.cell (j := 0) rfl
  have ia1_6 := Ba6.cell (j := 1) rfl
  have ia2_6 := Ba6.cell (j := 2) rfl
  have la_6 := Ba6.lt
  have Bb6 := Bb6
  have ib0_6 := Bb6.cell (j := 0) rfl
  have ib1_6 := Bb6.cell (j := 1) rfl
  have ib2_6 := Bb6.cell (j := 2) rfl
  have lb_6 := Bb6.lt
  refine (makeSome_any _ l 110 6 _ (hC.ext (h1.trans (h2.trans (h3.trans (h4.trans (h5.trans h6)))))) (by omega) (by omega)).mono ?_; rintro e7 w7 ⟨vk, K, rfl, ok, hKl, h7⟩
  obtain ⟨ak, ck, rfl, _, _⟩ := ok.ints.val
  clear hKl
  clear ir0_6 ir1_6 ir2_6 lr_6 ia0_6 ia1_6 ia2_6 la_6 ib0_6 ib1_6 ib2_6 lb_6
  have Br7 := (Br6.ext h7)
  clear Br6
  have ir0_7 := Br7.cell (j := 0) rfl
  have ir1_7 := Br7.cell (j := 1) rfl
  have ir2_7 := Br7.cell (j := 2) rfl
  have lr_7 := Br7.lt
  have Ba7 := (Ba6.ext h7)
  clear Ba6
  have ia0_7 := Ba7.cell (j := 0) rfl
  have ia1_7 := Ba7.cell (j := 1) rfl
  have ia2_7 := Ba7.cell (j := 2) rfl
  have la_7 := Ba7.lt
  have Bb7 := (Bb6.ext h7)
  clear Bb6
  have ib0_7 := Bb7.cell (j := 0) rfl
  have ib1_7 := Bb7.cell (j := 1) rfl
  have ib2_7 := Bb7.cell (j := 2) rfl
  have lb_7 := Bb7.lt
  go_wp2_with fail
  refine (contractPair_any HR.out Ta.out Tb.out K _ _ _ _ (oa.tens.ext (h4.trans (h5.trans (h6.trans h7)))) (ob.tens.ext (h6.trans h7)) ok.ints).mono ?_; rintro e8 w8 ⟨vx, rfl, ox, h8⟩
  obtain ⟨xp1, xn1, xc1, xp2, xn2, xc2, xp3, xn3, xc3, rfl⟩ := ox.shape
  clear ir0_7 ir1_7 ir2_7 lr_7 ia0_7 ia1_7 ia2_7 la_7 ib0_7 ib1_7 ib2_7 lb_7
  have Br8 := (Br7.ext h8)
  clear Br7
  have ir0_8 := Br8.cell (j := 0) rfl
  have ir1_8 := Br8.cell (j := 1) rfl
  have ir2_8 := Br8.cell (j := 2) rfl
  have lr_8 := Br8.lt
  have Ba8 := (Ba7.ext h8)
  clear Ba7
  have ia0_8 := Ba8.cell (j := 0) rfl
  have ia1_8 := Ba8.cell (j := 1) rfl
  have ia2_8 := Ba8.cell (j := 2) rfl
  have la_8 := Ba8.lt
  have Bb8 := (Bb7.ext h8)
  clear Bb7
  have ib0_8 := Bb8.cell (j := 0) rfl
  have ib1_8 := Bb8.cell (j := 1) rfl
  have ib2_8 := Bb8.cell (j := 2) rfl
  have lb_8 := Bb8.lt
  go_wp2_with fail
  generalize hG9 : w8.alloc (.cells #[.slice xp1 xn1 xc1, .slice xp2 xn2 xc2, .slice xp3 xn3 xc3] 31) = w9
  have h9 : Ext w8 w9 := by rw [← hG9]; exact (Ext.refl _).alloc _
  have Bx9 : Blk w9 w8.heap.size 31 [.slice xp1 xn1 xc1, .slice xp2 xn2 xc2, .slice xp3 xn3 xc3] := by rw [← hG9]; exact Blk.new w8 #[.slice xp1 xn1 xc1, .slice xp2 xn2 xc2, .slice xp3 xn3 xc3] 31
  clear hG9
  clear ir0_8 ir1_8 ir2_8 lr_8 ia0_8 ia1_8 ia2_8 la_8 ib0_8 ib1_8 ib2_8 lb_8
  have Br9 := (Br8.ext h9)
  clear Br8
  have ir0_9 := Br9.cell (j := 0) rfl
  have ir1_9 := Br9.cell (j := 1) rfl
  have ir2_9 := Br9.cell (j := 2) rfl
  have lr_9 := Br9.lt
  have Ba9 := (Ba8.ext h9)
  clear Ba8
  have ia0_9 := Ba9.cell (j := 0) rfl
  have ia1_9 := Ba9.cell (j := 1) rfl
  have ia2_9 := Ba9.cell (j := 2) rfl
  have la_9 := Ba9.lt
  have Bb9 := (Bb8.ext h9)
  clear Bb8
  have ib0_9 := Bb9.cell (j := 0) rfl
  have ib1_9 := Bb9.cell (j := 1) rfl
  have ib2_9 := Bb9.cell (j := 2) rfl
  have lb_9 := Bb9.lt
  have Bx9 := Bx9
  have ix0_9 := Bx9.cell (j := 0) rfl
  have ix1_9 := Bx9.cell (j := 1) rfl
  have ix2_9 := Bx9.cell (j := 2) rfl
  have lx_9 := Bx9.lt
  refine (contractPair_any HR.out Tb.out Ta.out K _ _ _ _ (ob.tens.ext (h6.trans (h7.trans (h8.trans h9)))) (oa.tens.ext (h4.trans (h5.trans (h6.trans (h7.trans (h8.trans h9)))))) (ok.ints.ext (h8.trans h9))).mono ?_; rintro e10 w10 ⟨vy, rfl, oy, h10⟩
  obtain ⟨yp1, yn1, yc1, yp2, yn2, yc2, yp3, yn3, yc3, rfl⟩ := oy.shape
  have HP := Lib.hid (pairs_sort HR.out Ta.out Tb.out K)
  have TX := Lib.hid (contr_isT HR.out Ta.out Tb.out K)
  have TY := Lib.hid (contr_isT HR.out Tb.out Ta.out K)
  obtain ⟨pj, hpj⟩ : ∃ pj, prodL ((joinL a b).map dimOf) = pj := ⟨_, rfl⟩
  obtain ⟨pk, hpk⟩ : ∃ pk, prodL ((keepL (joinL a b) K).map dimOf) = pk := ⟨_, rfl⟩
  have hjk : pk ≤ pj := by rw [← hpj, ← hpk]; exact prod_keep uni6 (Ta.out.sub.join Tb.out.sub) K
  have HJ1 := Lib.hid hpj
  have HJ2 : Hid (prodL ((joinL b a).map dimOf) = pj) := Lib.hid (by rw [← hpj]; exact prod_joins Ta.out.sub Tb.out.sub)
  have HTS : Hid (tsize (keepL (joinL a b) K) ((keepL (joinL a b) K).map dimOf) = pk) := Lib.hid (by rw [TX.out.ax.tsize, hpk])
  clear hpj hpk
  clear ir0_9 ir1_9 ir2_9 lr_9 ia0_9 ia1_9 ia2_9 la_9 ib0_9 ib1_9 ib2_9 lb_9 ix0_9 ix1_9 ix2_9 lx_9
  have Br10 := (Br9.ext h10)
  clear Br9
  have ir0_10 := Br10.cell (j := 0) rfl
  have ir1_10 := Br10.cell (j := 1) rfl
  have ir2_10 := Br10.cell (j := 2) rfl
  have lr_10 := Br10.lt
  have Ba10 := (Ba9.ext h10)
  clear Ba9
  have ia0_10 := Ba10.cell (j := 0) rfl
  have ia1_10 := Ba10.cell (j := 1) rfl
  have ia2_10 := Ba10.cell (j := 2) rfl
  have la_10 := Ba10.lt
  have Bb10 := (Bb9.ext h10)
  clear Bb9
  have ib0_10 := Bb10.cell (j := 0) rfl
  have ib1_10 := Bb10.cell (j := 1) rfl
  have ib2_10 := Bb10.cell (j := 2) rfl
  have lb_10 := Bb10.lt
  have Bx10 := (Bx9.ext h10)
  clear Bx9
  have ix0_10 := Bx10.cell (j := 0) rfl
  have ix1_10 := Bx10.cell (j := 1) rfl
  have ix2_10 := Bx10.cell (j := 2) rfl
  have lx_10 := Bx10.lt
  go_wp2_with fail
  generalize hG11 : w10.alloc (.cells #[.slice yp1 yn1 yc1, .slice yp2 yn2 yc2, .slice yp3 yn3 yc3] 31) = w11
  have h11 : Ext w10 w11 := by rw [← hG11]; exact (Ext.refl _).alloc _
  have By11 : Blk w11 w10.heap.size 31 [.slice yp1 yn1 yc1, .slice yp2 yn2 yc2, .slice yp3 yn3 yc3] := by rw [← hG11]; exact Blk.new w10 #[.slice yp1 yn1 yc1, .slice yp2 yn2 yc2, .slice yp3 yn3 yc3] 31
  clear hG11
  clear ir0_10 ir1_10 ir2_10 lr_10 ia0_10 ia1_10 ia2_10 la_10 ib0_10 ib1_10 ib2_10 lb_10 ix0_10 ix1_10 ix2_10 lx_10
  have Br11 := (Br10.ext h11)
  clear Br10
  have ir0_11 := Br11.cell (j := 0) rfl
  have ir1_11 := Br11.cell (j := 1) rfl
  have ir2_11 := Br11.cell (j := 2) rfl
  have lr_11 := Br11.lt
  have Ba11 := (Ba10.ext h11)
  clear Ba10
  have ia0_11 := Ba11.cell (j := 0) rfl
  have ia1_11 := Ba11.cell (j := 1) rfl
  have ia2_11 := Ba11.cell (j := 2) rfl
  have la_11 := Ba11.lt
  have Bb11 := (Bb10.ext h11)
  clear Bb10
  have ib0_11 := Bb11.cell (j := 0) rfl
  have ib1_11 := Bb11.cell (j := 1) rfl
  have ib2_11 := Bb11.cell (j := 2) rfl
  have lb_11 := Bb11.lt
  have Bx11 := (Bx10.ext h11)
  clear Bx10
  have ix0_11 := Bx11.cell (j := 0) rfl
  have ix1_11 := Bx11.cell (j := 1) rfl
  have ix2_11 := Bx11.cell (j := 2) rfl
  have lx_11 := Bx11.lt
  have By11 := By11
  have iy0_11 := By11.cell (j := 0) rfl
  have iy1_11 := By11.cell (j := 1) rfl
  have iy2_11 := By11.cell (j := 2) rfl
  have ly_11 := By11.lt
  go_upto_region 9 with fail
  try simp only [List.append]
  have h12 : Ext w11 w11.drew := (Ext.refl _).drew
  go_region_held3 (fun w' => w'.cell? ⟨w1.heap.size, 0, none⟩ = some (.int .i64 k) ∧ w'.cell? ⟨w1.heap.size, 1, none⟩ = some (.int .i64 p) ∧ w'.cell? ⟨w1.heap.size, 2, none⟩ = some (.int .i64 n) ∧ w'.cell? ⟨w3.heap.size, 0, none⟩ = some (.slice ap1 an1 ac1) ∧ w'.cell? ⟨w3.heap.size, 1, none⟩ = some (.slice ap2 an2 ac2) ∧ w'.cell? ⟨w3.heap.size, 2, none⟩ = some (.slice ap3 an3 ac3) ∧ w'.cell? ⟨w5.heap.size, 0, none⟩ = some (.slice bp1 bn1 bc1) ∧ w'.cell? ⟨w5.heap.size, 1, none⟩ = some (.slice bp2 bn2 bc2) ∧ w'.cell? ⟨w5.heap.size, 2, none⟩ = some (.slice bp3 bn3 bc3) ∧ w'.cell? ⟨w8.heap.size, 0, none⟩ = some (.slice xp1 xn1 xc1) ∧ w'.cell? ⟨w8.heap.size, 1, none⟩ = some (.slice xp2 xn2 xc2) ∧ w'.cell? ⟨w8.heap.size, 2, none⟩ = some (.slice xp3 xn3 xc3) ∧ w'.cell? ⟨w10.heap.size, 0, none⟩ = some (.slice yp1 yn1 yc1) ∧ w'.cell? ⟨w10.heap.size, 1, none⟩ = some (.slice yp2 yn2 yc2) ∧ w'.cell? ⟨w10.heap.size, 2, none⟩ = some (.slice yp3 yn3 yc3))
    (refine ⟨?_, ?_, ?_, ?_, ?_, ?_, ?_, ?_, ?_, ?_, ?_, ?_, ?_, ?_, ?_⟩ <;> first | (with_reducible assumption) | exact ((Ext.refl _).drew).cell (by with_reducible assumption) | exact ((Ext.refl _).alloc _).cell (by with_reducible assumption) | (simp [*]; done))
    (first | (go_at_call 18; (with_reducible refine (sameTensor_yes HR.out TX.out TY.out HP.out.1 HP.out.2 _ _ w11.drew (ox.tens.ext (h9.trans (h10.trans (h11.trans h12)))) (oy.tens.ext (h11.trans h12))).mono ?_); rintro e13 w13 ⟨rfl, h13⟩; have c13_0 := (h12.trans h13).cell ir0_11; have c13_1 := (h12.trans h13).cell ir1_11; have c13_2 := (h12.trans h13).cell ir2_11; have c13_3 := (h12.trans h13).cell ia0_11; have c13_4 := (h12.trans h13).cell ia1_11; have c13_5 := (h12.trans h13).cell ia2_11; have c13_6 := (h12.trans h13).cell ib0_11; have c13_7 := (h12.trans h13).cell ib1_11; have c13_8 := (h12.trans h13).cell ib2_11; have c13_9 := (h12.trans h13).cell ix0_11; have c13_10 := (h12.trans h13).cell ix1_11; have c13_11 := (h12.trans h13).cell ix2_11; have c13_12 := (h12.trans h13).cell iy0_11; have c13_13 := (h12.trans h13).cell iy1_11; have c13_14 := (h12.trans h13).cell iy2_11) | (go_at_call 19; (with_reducible refine (joinSize_any uni6 Ta.out.sub Tb.out.sub _ _ w13 (oa.tens.ext (h4.trans (h5.trans (h6.trans (h7.trans (h8.trans (h9.trans (h10.trans (h11.trans (h12.trans h13)))))))))) (ob.tens.ext (h6.trans (h7.trans (h8.trans (h9.trans (h10.trans (h11.trans (h12.trans h13))))))))).mono ?_); rintro e14 w14 ⟨rfl, h14⟩; rw [HJ1.out]; have c14_0 := (h12.trans (h13.trans h14)).cell ir0_11; have c14_1 := (h12.trans (h13.trans h14)).cell ir1_11; have c14_2 := (h12.trans (h13.trans h14)).cell ir2_11; have c14_3 := (h12.trans (h13.trans h14)).cell ia0_11; have c14_4 := (h12.trans (h13.trans h14)).cell ia1_11; have c14_5 := (h12.trans (h13.trans h14)).cell ia2_11; have c14_6 := (h12.trans (h13.trans h14)).cell ib0_11; have c14_7 := (h12.trans (h13.trans h14)).cell ib1_11; have c14_8 := (h12.trans (h13.trans h14)).cell ib2_11; have c14_9 := (h12.trans (h13.trans h14)).cell ix0_11; have c14_10 := (h12.trans (h13.trans h14)).cell ix1_11; have c14_11 := (h12.trans (h13.trans h14)).cell ix2_11; have c14_12 := (h12.trans (h13.trans h14)).cell iy0_11; have c14_13 := (h12.trans (h13.trans h14)).cell iy1_11; have c14_14 := (h12.trans (h13.trans h14)).cell iy2_11) | (go_at_call 19; (with_reducible refine (joinSize_any uni6 Tb.out.sub Ta.out.sub _ _ w14 (ob.tens.ext (h6.trans (h7.trans (h8.trans (h9.trans (h10.trans (h11.trans (h12.trans (h13.trans h14))))))))) (oa.tens.ext (h4.trans (h5.trans (h6.trans (h7.trans (h8.trans (h9.trans (h10.trans (h11.trans (h12.trans (h13.trans h14)))))))))))).mono ?_); rintro e15 w15 ⟨rfl, h15⟩; rw [HJ2.out]; have c15_0 := (h12.trans (h13.trans (h14.trans h15))).cell ir0_11; have c15_1 := (h12.trans (h13.trans (h14.trans h15))).cell ir1_11; have c15_2 := (h12.trans (h13.trans (h14.trans h15))).cell ir2_11; have c15_3 := (h12.trans (h13.trans (h14.trans h15))).cell ia0_11; have c15_4 := (h12.trans (h13.trans (h14.trans h15))).cell ia1_11; have c15_5 := (h12.trans (h13.trans (h14.trans h15))).cell ia2_11; have c15_6 := (h12.trans (h13.trans (h14.trans h15))).cell ib0_11; have c15_7 := (h12.trans (h13.trans (h14.trans h15))).cell ib1_11; have c15_8 := (h12.trans (h13.trans (h14.trans h15))).cell ib2_11; have c15_9 := (h12.trans (h13.trans (h14.trans h15))).cell ix0_11; have c15_10 := (h12.trans (h13.trans (h14.trans h15))).cell ix1_11; have c15_11 := (h12.trans (h13.trans (h14.trans h15))).cell ix2_11; have c15_12 := (h12.trans (h13.trans (h14.trans h15))).cell iy0_11; have c15_13 := (h12.trans (h13.trans (h14.trans h15))).cell iy1_11; have c15_14 := (h12.trans (h13.trans (h14.trans h15))).cell iy2_11) | (go_at_call 19; (with_reducible refine (joinSize_any uni6 Ta.out.sub Tb.out.sub _ _ w15 (oa.tens.ext (h4.trans (h5.trans (h6.trans (h7.trans (h8.trans (h9.trans (h10.trans (h11.trans (h12.trans (h13.trans (h14.trans h15)))))))))))) (ob.tens.ext (h6.trans (h7.trans (h8.trans (h9.trans (h10.trans (h11.trans (h12.trans (h13.trans (h14.trans h15))))))))))).mono ?_); rintro e16 w16 ⟨rfl, h16⟩; rw [HJ1.out]; have c16_0 := (h12.trans (h13.trans (h14.trans (h15.trans h16)))).cell ir0_11; have c16_1 := (h12.trans (h13.trans (h14.trans (h15.trans h16)))).cell ir1_11; have c16_2 := (h12.trans (h13.trans (h14.trans (h15.trans h16)))).cell ir2_11; have c16_3 := (h12.trans (h13.trans (h14.trans (h15.trans h16)))).cell ia0_11; have c16_4 := (h12.trans (h13.trans (h14.trans (h15.trans h16)))).cell ia1_11; have c16_5 := (h12.trans (h13.trans (h14.trans (h15.trans h16)))).cell ia2_11; have c16_6 := (h12.trans (h13.trans (h14.trans (h15.trans h16)))).cell ib0_11; have c16_7 := (h12.trans (h13.trans (h14.trans (h15.trans h16)))).cell ib1_11; have c16_8 := (h12.trans (h13.trans (h14.trans (h15.trans h16)))).cell ib2_11; have c16_9 := (h12.trans (h13.trans (h14.trans (h15.trans h16)))).cell ix0_11; have c16_10 := (h12.trans (h13.trans (h14.trans (h15.trans h16)))).cell ix1_11; have c16_11 := (h12.trans (h13.trans (h14.trans (h15.trans h16)))).cell ix2_11; have c16_12 := (h12.trans (h13.trans (h14.trans (h15.trans h16)))).cell iy0_11; have c16_13 := (h12.trans (h13.trans (h14.trans (h15.trans h16)))).cell iy1_11; have c16_14 := (h12.trans (h13.trans (h14.trans (h15.trans h16)))).cell iy2_11) | (go_at_call 20; (with_reducible refine (tensorSize_impl _ _ _ _ w16 (ox.tens.ext (h9.trans (h10.trans (h11.trans (h12.trans (h13.trans (h14.trans (h15.trans h16))))))))).mono ?_); rintro e17 w17 ⟨rfl, h17⟩; rw [HTS.out]; have c17_0 := (h12.trans (h13.trans (h14.trans (h15.trans (h16.trans h17))))).cell ir0_11; have c17_1 := (h12.trans (h13.trans (h14.trans (h15.trans (h16.trans h17))))).cell ir1_11; have c17_2 := (h12.trans (h13.trans (h14.trans (h15.trans (h16.trans h17))))).cell ir2_11; have c17_3 := (h12.trans (h13.trans (h14.trans (h15.trans (h16.trans h17))))).cell ia0_11; have c17_4 := (h12.trans (h13.trans (h14.trans (h15.trans (h16.trans h17))))).cell ia1_11; have c17_5 := (h12.trans (h13.trans (h14.trans (h15.trans (h16.trans h17))))).cell ia2_11; have c17_6 := (h12.trans (h13.trans (h14.trans (h15.trans (h16.trans h17))))).cell ib0_11; have c17_7 := (h12.trans (h13.trans (h14.trans (h15.trans (h16.trans h17))))).cell ib1_11; have c17_8 := (h12.trans (h13.trans (h14.trans (h15.trans (h16.trans h17))))).cell ib2_11; have c17_9 := (h12.trans (h13.trans (h14.trans (h15.trans (h16.trans h17))))).cell ix0_11; have c17_10 := (h12.trans (h13.trans (h14.trans (h15.trans (h16.trans h17))))).cell ix1_11; have c17_11 := (h12.trans (h13.trans (h14.trans (h15.trans (h16.trans h17))))).cell ix2_11; have c17_12 := (h12.trans (h13.trans (h14.trans (h15.trans (h16.trans h17))))).cell iy0_11; have c17_13 := (h12.trans (h13.trans (h14.trans (h15.trans (h16.trans h17))))).cell iy1_11; have c17_14 := (h12.trans (h13.trans (h14.trans (h15.trans (h16.trans h17))))).cell iy2_11))
  go_wp2
  go_ret
  exact ⟨rfl, (h1.trans (h2.trans (h3.trans (h4.trans (h5.trans (h6.trans (h7.trans (h8.trans (h9.trans (h10.trans (h11.trans (h12.trans (h13.trans (h14.trans (h15.trans (h16.trans h17))))))))))))))))⟩
end Go.Proofs.Ytabeciopggofkaa
