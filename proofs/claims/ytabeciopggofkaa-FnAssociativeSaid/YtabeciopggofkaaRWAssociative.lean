/- The law 'FnAssociative', walked. -/
import Derived.Deep.RegionHeld3
import Derived.Test.YtabeciopggofkaaRBase
import Derived.Test.YtabeciopggofkaaRContrW
import Derived.Test.YtabeciopggofkaaRSortT
import Derived.Test.YtabeciopggofkaaRSomeW
import Derived.Test.YtabeciopggofkaaRDrawE
import Derived.Test.YtabeciopggofkaaRAssocP
namespace Go.Proofs.Ytabeciopggofkaa
open Go.RowKit
set_option linter.unusedSimpArgs false
set_option linter.unusedVariables false

theorem TenS.labs {w : World} {a b c : Value} {L D X : List Int} (h : TenS w (.agg #[a, b, c]) L D X) : IntS w a L := by
  obtain ⟨_, _, _, hv, h1, _, _⟩ := h.val
  simp at hv
  obtain ⟨rfl, rfl, rfl⟩ := hv
  exact h1

set_option maxRecDepth 100000 in
set_option maxHeartbeats 8000000 in
theorem walkFnAssociative (v : Value) (l : List Int) (w : World) (hl : ByteS w v l) (hall : ∀ x ∈ l, 0 ≤ x ∧ x ≤ 255) :
    Calls Try.prog 5 #[v] w fun e w' => e = .returned (.bool true) ∧ Ext w w' := by
  obtain ⟨ca, cap, rfl, hc1, hc2⟩ := hl.val
  by_cases big : 1048576 < l.length
  · go_enter Try.func5, Try.ntmps5
    go_wp2
    go_ret
    exact ⟨rfl, (by repeat' (first | (with_reducible exact Ext.refl _) | (with_reducible assumption) | (with_reducible apply Ext.alloc) | (with_reducible apply Ext.drew) | (with_reducible apply Ext.drewN) | (refine Ext.setAt ?_ (by omega) _ _) | (refine Ext.trans ?_ (by assumption))))⟩
  have hC : Code w (.slice ca l.length cap) l := ⟨hl, hall, by omega⟩
  clear hall hl
  go_enter Try.func5, Try.ntmps5
  go_wp2_with fail
  refine (makeRing_any _ l 0 _ hC (by omega)).mono ?_; rintro e1 w1 ⟨k, p, n, rfl, hd, h1⟩
  have HR := Lib.hid (drawn_ok hd); clear hd
  go_wp2_with fail
  generalize hG2 : w1.alloc (.cells #[.int .i64 k, .int .i64 p, .int .i64 n] 24) = w2
  have h2 : Ext w1 w2 := by rw [← hG2]; exact (Ext.refl _).alloc _
  have Br2 : Blk w2 w1.heap.size 24 [.int .i64 k, .int .i64 p, .int .i64 n] := by rw [← hG2]; exact Blk.new w1 #[.int .i64 k, .int .i64 p, .int .i64 n] 24
  clear hG2
  have Br2 := Br2
  have ir0_2 := Br2.cell (j := 0) rfl
  have ir1_2 := Br2.cell (j := 1) rfl
  have ir2_2 := Br2.cell (j := 2) rfl
  have lr_2 := Br2.lt
  refine (makeTensor_any _ l 10 k p n HR.out _ (hC.ext (h1.trans h2)) (by omega)).mono ?_; rintro e3 w3 ⟨vTa, a, Da, Xa, rfl, oa, dT, h3⟩
  obtain ⟨xsa, rfl, rfl, hT⟩ := drawn_isT HR.out dT
  have Ta := Lib.hid hT
  have hla : a.length ≤ 3 := by have := dT.labs.len; omega
  clear dT hT
  obtain ⟨ap1, an1, ac1, ap2, an2, ac2, ap3, an3, ac3, rfl⟩ := oa.shape
  clear ir0_2 ir1_2 ir2_2 lr_2
  have Br3 := (Br2.ext h3)
  clear Br2
  have ir0_3 := Br3.cell (j := 0) rfl
  have ir1_3 := Br3.cell (j := 1) rfl
  have ir2_3 := Br3.cell (j := 2) rfl
  have lr_3 := Br3.lt
  go_wp2_with fail
  generalize hG4 : w3.alloc (.cells #[.slice ap1 an1 ac1, .slice ap2 an2 ac2, .slice ap3 an3 ac3] 31) = w4
  have h4 : Ext w3 w4 := by rw [← hG4]; exact (Ext.refl _).alloc _
  have Ba4 : Blk w4 w3.heap.size 31 [.slice ap1 an1 ac1, .slice ap2 an2 ac2, .slice ap3 an3 ac3] := by rw [← hG4]; exact Blk.new w3 #[.slice ap1 an1 ac1, .slice ap2 an2 ac2, .slice ap3 an3 ac3] 31
  clear hG4
  clear ir0_3 ir1_3 ir2_3 lr_3
  have Br4 := (Br3.ext h4)
  clear Br3
  have ir0_4 := Br4.cell (j := 0) rfl
  have ir1_4 := Br4.cell (j := 1) rfl
  have ir2_4 := Br4.cell (j := 2) rfl
  have lr_4 := Br4.lt
  have Ba4 := Ba4
  have ia0_4 := Ba4.cell (j := 0) rfl
  have ia1_4 := Ba4.cell (j := 1) rfl
  have ia2_4 := Ba4.cell (j := 2) rfl
  have la_4 := Ba4.lt
  refine (makeTensor_any _ l 60 k p n HR.out _ (hC.ext (h1.trans (h2.trans (h3.trans h4)))) (by omega)).mono ?_; rintro e5 w5 ⟨vTb, b, Db, Xb, rfl, ob, dT, h5⟩
  obtain ⟨xsb, rfl, rfl, hT⟩ := drawn_isT HR.out dT
  have Tb := Lib.hid hT
  have hlb : b.length ≤ 3 := by have := dT.labs.len; omega
  clear dT hT
  obtain ⟨bp1, bn1, bc1, bp2, bn2, bc2, bp3, bn3, bc3, rfl⟩ := ob.shape
  clear ir0_4 ir1_4 ir2_4 lr_4 ia0_4 ia1_4 ia2_4 la_4
  have Br5 := (Br4.ext h5)
  clear Br4
  have ir0_5 := Br5.cell (j := 0) rfl
  have ir1_5 := Br5.cell (j := 1) rfl
  have ir2_5 := Br5.cell (j := 2) rfl
  have lr_5 := Br5.lt
  have Ba5 := (Ba4.ext h5)
  clear Ba4
  have ia0_5 := Ba5.cell (j := 0) rfl
  have ia1_5 := Ba5.cell (j := 1) rfl
  have ia2_5 := Ba5.cell (j := 2) rfl
  have la_5 := Ba5.lt
  go_wp2_with fail
  generalize hG6 : w5.alloc (.cells #[.slice bp1 bn1 bc1, .slice bp2 bn2 bc2, .slice bp3 bn3 bc3] 31) = w6
  have h6 : Ext w5 w6 := by rw [← hG6]; exact (Ext.refl _).alloc _
  have Bb6 : Blk w6 w5.heap.size 31 [.slice bp1 bn1 bc1, .slice bp2 bn2 bc2, .slice bp3 bn3 bc3] := by rw [← hG6]; exact Blk.new w5 #[.slice bp1 bn1 bc1, .slice bp2 bn2 bc2, .slice bp3 bn3 bc3] 31
  clear hG6
  clear ir0_5 ir1_5 ir2_5 lr_5 ia0_5 ia1_5 ia2_5 la_5
  have Br6 := (Br5.ext h6)
  clear Br5
  have ir0_6 := Br6.cell (j := 0) rfl
  have ir1_6 := Br6.cell (j := 1) rfl
  have ir2_6 := Br6.cell (j := 2) rfl
  have lr_6 := Br6.lt
  have Ba6 := (Ba5.ext h6)
  clear Ba5
  have ia0_6 := Ba6.cell (j := 0) rfl
  have ia1_6 := Ba6.cell (j := 1) rfl
  have ia2_6 := Ba6.cell (j := 2) rfl
  have la_6 := Ba6.lt
  have Bb6 := Bb6
  have ib0_6 := Bb6.cell (j := 0) rfl
  have ib1_6 := Bb6.cell (j := 1) rfl
  have ib2_6 := Bb6.cell (j := 2) rfl
  have lb_6 := Bb6.lt
  refine (makeTensor_any _ l 110 k p n HR.out _ (hC.ext (h1.trans (h2.trans (h3.trans (h4.trans (h5.trans h6)))))) (by omega)).mono ?_; rintro e7 w7 ⟨vTc, c, Dc, Xc, rfl, oc, dT, h7⟩
  obtain ⟨xsc, rfl, rfl, hT⟩ := drawn_isT HR.out dT
  have Tc := Lib.hid hT
  have hlc : c.length ≤ 3 := by have := dT.labs.len; omega
  clear dT hT
  obtain ⟨cp1, cn1, cc1, cp2, cn2, cc2, cp3, cn3, cc3, rfl⟩ := oc.shape
  clear ir0_6 ir1_6 ir2_6 lr_6 ia0_6 ia1_6 ia2_6 la_6 ib0_6 ib1_6 ib2_6 lb_6
  have Br7 := (Br6.ext h7)
  clear Br6
  have ir0_7 := Br7.cell (j := 0) rfl
  have ir1_7 := Br7.cell (j := 1) rfl
  have ir2_7 := Br7.cell (j := 2) rfl
  have lr_7 := Br7.lt
  have Ba7 := (Ba6.ext h7)
  clear Ba6
  have ia0_7 := Ba7.cell (j := 0) rfl
  have ia1_7 := Ba7.cell (j := 1) rfl
  have ia2_7 := Ba7.cell (j := 2) rfl
  have la_7 := Ba7.lt
  have Bb7 := (Bb6.ext h7)
  clear Bb6
  have ib0_7 := Bb7.cell (j := 0) rfl
  have ib1_7 := Bb7.cell (j := 1) rfl
  have ib2_7 := Bb7.cell (j := 2) rfl
  have lb_7 := Bb7.lt
  go_wp2_with fail
  generalize hG8 : w7.alloc (.cells #[.slice cp1 cn1 cc1, .slice cp2 cn2 cc2, .slice cp3 cn3 cc3] 31) = w8
  have h8 : Ext w7 w8 := by rw [← hG8]; exact (Ext.refl _).alloc _
  have Bc8 : Blk w8 w7.heap.size 31 [.slice cp1 cn1 cc1, .slice cp2 cn2 cc2, .slice cp3 cn3 cc3] := by rw [← hG8]; exact Blk.new w7 #[.slice cp1 cn1 cc1, .slice cp2 cn2 cc2, .slice cp3 cn3 cc3] 31
  have hsz8 : w8.heap.size = w7.heap.size + 1 := by rw [← hG8]; simp
  have HSZ8 := Lib.hid hsz8; clear hsz8
  clear hG8
  clear ir0_7 ir1_7 ir2_7 lr_7 ia0_7 ia1_7 ia2_7 la_7 ib0_7 ib1_7 ib2_7 lb_7
  have Br8 := (Br7.ext h8)
  clear Br7
  have ir0_8 := Br8.cell (j := 0) rfl
  have ir1_8 := Br8.cell (j := 1) rfl
  have ir2_8 := Br8.cell (j := 2) rfl
  have lr_8 := Br8.lt
  have Ba8 := (Ba7.ext h8)
  clear Ba7
  have ia0_8 := Ba8.cell (j := 0) rfl
  have ia1_8 := Ba8.cell (j := 1) rfl
  have ia2_8 := Ba8.cell (j := 2) rfl
  have la_8 := Ba8.lt
  have Bb8 := (Bb7.ext h8)
  clear Bb7
  have ib0_8 := Bb8.cell (j := 0) rfl
  have ib1_8 := Bb8.cell (j := 1) rfl
  have ib2_8 := Bb8.cell (j := 2) rfl
  have lb_8 := Bb8.lt
  have Bc8 := Bc8
  have ic0_8 := Bc8.cell (j := 0) rfl
  have ic1_8 := Bc8.cell (j := 1) rfl
  have ic2_8 := Bc8.cell (j := 2) rfl
  have lc_8 := Bc8.lt
  generalize hG9 : w8.alloc (.cells #[.int .i64 0, .int .i64 1, .int .i64 2, .int .i64 3, .int .i64 4, .int .i64 5] 3) = w9
  have h9 : Ext w8 w9 := by rw [← hG9]; exact (Ext.refl _).alloc _
  have Bu9 : Blk w9 w8.heap.size 3 [.int .i64 0, .int .i64 1, .int .i64 2, .int .i64 3, .int .i64 4, .int .i64 5] := by rw [← hG9]; exact Blk.new w8 #[.int .i64 0, .int .i64 1, .int .i64 2, .int .i64 3, .int .i64 4, .int .i64 5] 3
  clear hG9
  clear ir0_8 ir1_8 ir2_8 lr_8 ia0_8 ia1_8 ia2_8 la_8 ib0_8 ib1_8 ib2_8 lb_8 ic0_8 ic1_8 ic2_8 lc_8
  have Br9 := (Br8.ext h9)
  clear Br8
  have ir0_9 := Br9.cell (j := 0) rfl
  have ir1_9 := Br9.cell (j := 1) rfl
  have ir2_9 := Br9.cell (j := 2) rfl
  have lr_9 := Br9.lt
  have Ba9 := (Ba8.ext h9)
  clear Ba8
  have ia0_9 := Ba9.cell (j := 0) rfl
  have ia1_9 := Ba9.cell (j := 1) rfl
  have ia2_9 := Ba9.cell (j := 2) rfl
  have la_9 := Ba9.lt
  have Bb9 := (Bb8.ext h9)
  clear Bb8
  have ib0_9 := Bb9.cell (j := 0) rfl
  have ib1_9 := Bb9.cell (j := 1) rfl
  have ib2_9 := Bb9.cell (j := 2) rfl
  have lb_9 := Bb9.lt
  have Bc9 := (Bc8.ext h9)
  clear Bc8
  have ic0_9 := Bc9.cell (j := 0) rfl
  have ic1_9 := Bc9.cell (j := 1) rfl
  have ic2_9 := Bc9.cell (j := 2) rfl
  have lc_9 := Bc9.lt
  have Bu9 := Bu9
  have iu0_9 := Bu9.cell (j := 0) rfl
  have iu1_9 := Bu9.cell (j := 1) rfl
  have iu2_9 := Bu9.cell (j := 2) rfl
  have iu3_9 := Bu9.cell (j := 3) rfl
  have iu4_9 := Bu9.cell (j := 4) rfl
  have iu5_9 := Bu9.cell (j := 5) rfl
  have lu_9 := Bu9.lt
  have hU : IntS w9 (.slice (some ⟨w7.heap.size + 1, 0, none⟩) 6 6) U6 := by
    have h : IntS w9 (.slice (some ⟨w8.heap.size, 0, none⟩) 6 6) U6 := (OwnI.of (l := U6) (Nat.le_refl _) (show Blk _ _ _ (ints U6) from Bu9) (by simp [U6, maxLen])).ints
    rwa [HSZ8.out] at h
  clear iu0_9 iu1_9 iu2_9 iu3_9 iu4_9 iu5_9 lu_9 Bu9
  refine (contractPair_any HR.out Ta.out Tb.out U6 _ _ _ _ (oa.tens.ext (h4.trans (h5.trans (h6.trans (h7.trans (h8.trans h9)))))) (ob.tens.ext (h6.trans (h7.trans (h8.trans h9)))) hU).mono ?_; rintro e10 w10 ⟨vab, rfl, oab, h10⟩
  obtain ⟨abp1, abn1, abc1, abp2, abn2, abc2, abp3, abn3, abc3, rfl⟩ := oab.shape
  clear ir0_9 ir1_9 ir2_9 lr_9 ia0_9 ia1_9 ia2_9 la_9 ib0_9 ib1_9 ib2_9 lb_9 ic0_9 ic1_9 ic2_9 lc_9
  have Br10 := (Br9.ext h10)
  clear Br9
  have ir0_10 := Br10.cell (j := 0) rfl
  have ir1_10 := Br10.cell (j := 1) rfl
  have ir2_10 := Br10.cell (j := 2) rfl
  have lr_10 := Br10.lt
  have Ba10 := (Ba9.ext h10)
  clear Ba9
  have ia0_10 := Ba10.cell (j := 0) rfl
  have ia1_10 := Ba10.cell (j := 1) rfl
  have ia2_10 := Ba10.cell (j := 2) rfl
  have la_10 := Ba10.lt
  have Bb10 := (Bb9.ext h10)
  clear Bb9
  have ib0_10 := Bb10.cell (j := 0) rfl
  have ib1_10 := Bb10.cell (j := 1) rfl
  have ib2_10 := Bb10.cell (j := 2) rfl
  have lb_10 := Bb10.lt
  have Bc10 := (Bc9.ext h10)
  clear Bc9
  have ic0_10 := Bc10.cell (j := 0) rfl
  have ic1_10 := Bc10.cell (j := 1) rfl
  have ic2_10 := Bc10.cell (j := 2) rfl
  have lc_10 := Bc10.lt
  go_wp2_with fail
  generalize hG11 : w10.alloc (.cells #[.slice abp1 abn1 abc1, .slice abp2 abn2 abc2, .slice abp3 abn3 abc3] 31) = w11
  have h11 : Ext w10 w11 := by rw [← hG11]; exact (Ext.refl _).alloc _
  have Bab11 : Blk w11 w10.heap.size 31 [.slice abp1 abn1 abc1, .slice abp2 abn2 abc2, .slice abp3 abn3 abc3] := by rw [← hG11]; exact Blk.new w10 #[.slice abp1 abn1 abc1, .slice abp2 abn2 abc2, .slice abp3 abn3 abc3] 31
  clear hG11
  clear ir0_10 ir1_10 ir2_10 lr_10 ia0_10 ia1_10 ia2_10 la_10 ib0_10 ib1_10 ib2_10 lb_10 ic0_10 ic1_10 ic2_10 lc_10
  have Br11 := (Br10.ext h11)
  clear Br10
  have ir0_11 := Br11.cell (j := 0) rfl
  have ir1_11 := Br11.cell (j := 1) rfl
  have ir2_11 := Br11.cell (j := 2) rfl
  have lr_11 := Br11.lt
  have Ba11 := (Ba10.ext h11)
  clear Ba10
  have ia0_11 := Ba11.cell (j := 0) rfl
  have ia1_11 := Ba11.cell (j := 1) rfl
  have ia2_11 := Ba11.cell (j := 2) rfl
  have la_11 := Ba11.lt
  have Bb11 := (Bb10.ext h11)
  clear Bb10
  have ib0_11 := Bb11.cell (j := 0) rfl
  have ib1_11 := Bb11.cell (j := 1) rfl
  have ib2_11 := Bb11.cell (j := 2) rfl
  have lb_11 := Bb11.lt
  have Bc11 := (Bc10.ext h11)
  clear Bc10
  have ic0_11 := Bc11.cell (j := 0) rfl
  have ic1_11 := Bc11.cell (j := 1) rfl
  have ic2_11 := Bc11.cell (j := 2) rfl
  have lc_11 := Bc11.lt
  have Bab11 := Bab11
  have iab0_11 := Bab11.cell (j := 0) rfl
  have iab1_11 := Bab11.cell (j := 1) rfl
  have iab2_11 := Bab11.cell (j := 2) rfl
  have lab_11 := Bab11.lt
  refine (contractPair_any HR.out Tb.out Tc.out U6 _ _ _ _ (ob.tens.ext (h6.trans (h7.trans (h8.trans (h9.trans (h10.trans h11)))))) (oc.tens.ext (h8.trans (h9.trans (h10.trans h11)))) (hU.ext (h10.trans h11))).mono ?_; rintro e12 w12 ⟨vbc, rfl, obc, h12⟩
  obtain ⟨bcp1, bcn1, bcc1, bcp2, bcn2, bcc2, bcp3, bcn3, bcc3, rfl⟩ := obc.shape
  clear ir0_11 ir1_11 ir2_11 lr_11 ia0_11 ia1_11 ia2_11 la_11 ib0_11 ib1_11 ib2_11 lb_11 ic0_11 ic1_11 ic2_11 lc_11 iab0_11 iab1_11 iab2_11 lab_11
  have Br12 := (Br11.ext h12)
  clear Br11
  have ir0_12 := Br12.cell (j := 0) rfl
  have ir1_12 := Br12.cell (j := 1) rfl
  have ir2_12 := Br12.cell (j := 2) rfl
  have lr_12 := Br12.lt
  have Ba12 := (Ba11.ext h12)
  clear Ba11
  have ia0_12 := Ba12.cell (j := 0) rfl
  have ia1_12 := Ba12.cell (j := 1) rfl
  have ia2_12 := Ba12.cell (j := 2) rfl
  have la_12 := Ba12.lt
  have Bb12 := (Bb11.ext h12)
  clear Bb11
  have ib0_12 := Bb12.cell (j := 0) rfl
  have ib1_12 := Bb12.cell (j := 1) rfl
  have ib2_12 := Bb12.cell (j := 2) rfl
  have lb_12 := Bb12.lt
  have Bc12 := (Bc11.ext h12)
  clear Bc11
  have ic0_12 := Bc12.cell (j := 0) rfl
  have ic1_12 := Bc12.cell (j := 1) rfl
  have ic2_12 := Bc12.cell (j := 2) rfl
  have lc_12 := Bc12.lt
  have Bab12 := (Bab11.ext h12)
  clear Bab11
  have iab0_12 := Bab12.cell (j := 0) rfl
  have iab1_12 := Bab12.cell (j := 1) rfl
  have iab2_12 := Bab12.cell (j := 2) rfl
  have lab_12 := Bab12.lt
  go_wp2_with fail
  generalize hG13 : w12.alloc (.cells #[.slice bcp1 bcn1 bcc1, .slice bcp2 bcn2 bcc2, .slice bcp3 bcn3 bcc3] 31) = w13
  have h13 : Ext w12 w13 := by rw [← hG13]; exact (Ext.refl _).alloc _
  have Bbc13 : Blk w13 w12.heap.size 31 [.slice bcp1 bcn1 bcc1, .slice bcp2 bcn2 bcc2, .slice bcp3 bcn3 bcc3] := by rw [← hG13]; exact Blk.new w12 #[.slice bcp1 bcn1 bcc1, .slice bcp2 bcn2 bcc2, .slice bcp3 bcn3 bcc3] 31
  clear hG13
  clear ir0_12 ir1_12 ir2_12 lr_12 ia0_12 ia1_12 ia2_12 la_12 ib0_12 ib1_12 ib2_12 lb_12 ic0_12 ic1_12 ic2_12 lc_12 iab0_12 iab1_12 iab2_12 lab_12
  have Br13 := (Br12.ext h13)
  clear Br12
  have ir0_13 := Br13.cell (j := 0) rfl
  have ir1_13 := Br13.cell (j := 1) rfl
  have ir2_13 := Br13.cell (j := 2) rfl
  have lr_13 := Br13.lt
  have Ba13 := (Ba12.ext h13)
  clear Ba12
  have ia0_13 := Ba13.cell (j := 0) rfl
  have ia1_13 := Ba13.cell (j := 1) rfl
  have ia2_13 := Ba13.cell (j := 2) rfl
  have la_13 := Ba13.lt
  have Bb13 := (Bb12.ext h13)
  clear Bb12
  have ib0_13 := Bb13.cell (j := 0) rfl
  have ib1_13 := Bb13.cell (j := 1) rfl
  have ib2_13 := Bb13.cell (j := 2) rfl
  have lb_13 := Bb13.lt
  have Bc13 := (Bc12.ext h13)
  clear Bc12
  have ic0_13 := Bc13.cell (j := 0) rfl
  have ic1_13 := Bc13.cell (j := 1) rfl
  have ic2_13 := Bc13.cell (j := 2) rfl
  have lc_13 := Bc13.lt
  have Bab13 := (Bab12.ext h13)
  clear Bab12
  have iab0_13 := Bab13.cell (j := 0) rfl
  have iab1_13 := Bab13.cell (j := 1) rfl
  have iab2_13 := Bab13.cell (j := 2) rfl
  have lab_13 := Bab13.lt
  have Bbc13 := Bbc13
  have ibc0_13 := Bbc13.cell (j := 0) rfl
  have ibc1_13 := Bbc13.cell (j := 1) rfl
  have ibc2_13 := Bbc13.cell (j := 2) rfl
  have lbc_13 := Bbc13.lt
  have Tab := Lib.hid (contr_isT HR.out Ta.out Tb.out U6)
  have Tbc := Lib.hid (contr_isT HR.out Tb.out Tc.out U6)
  refine (contractPair_any HR.out Tab.out Tc.out U6 _ _ _ _ (oab.tens.ext (h11.trans (h12.trans h13))) (oc.tens.ext (h8.trans (h9.trans (h10.trans (h11.trans (h12.trans h13)))))) (hU.ext (h10.trans (h11.trans (h12.trans h13))))).mono ?_; rintro e14 w14 ⟨vx, rfl, ox, h14⟩
  obtain ⟨xp1, xn1, xc1, xp2, xn2, xc2, xp3, xn3, xc3, rfl⟩ := ox.shape
  clear ir0_13 ir1_13 ir2_13 lr_13 ia0_13 ia1_13 ia2_13 la_13 ib0_13 ib1_13 ib2_13 lb_13 ic0_13 ic1_13 ic2_13 lc_13 iab0_13 iab1_13 iab2_13 lab_13 ibc0_13 ibc1_13 ibc2_13 lbc_13
  have Br14 := (Br13.ext h14)
  clear Br13
  have ir0_14 := Br14.cell (j := 0) rfl
  have ir1_14 := Br14.cell (j := 1) rfl
  have ir2_14 := Br14.cell (j := 2) rfl
  have lr_14 := Br14.lt
  have Ba14 := (Ba13.ext h14)
  clear Ba13
  have ia0_14 := Ba14.cell (j := 0) rfl
  have ia1_14 := Ba14.cell (j := 1) rfl
  have ia2_14 := Ba14.cell (j := 2) rfl
  have la_14 := Ba14.lt
  have Bb14 := (Bb13.ext h14)
  clear Bb13
  have ib0_14 := Bb14.cell (j := 0) rfl
  have ib1_14 := Bb14.cell (j := 1) rfl
  have ib2_14 := Bb14.cell (j := 2) rfl
  have lb_14 := Bb14.lt
  have Bc14 := (Bc13.ext h14)
  clear Bc13
  have ic0_14 := Bc14.cell (j := 0) rfl
  have ic1_14 := Bc14.cell (j := 1) rfl
  have ic2_14 := Bc14.cell (j := 2) rfl
  have lc_14 := Bc14.lt
  have Bab14 := (Bab13.ext h14)
  clear Bab13
  have iab0_14 := Bab14.cell (j := 0) rfl
  have iab1_14 := Bab14.cell (j := 1) rfl
  have iab2_14 := Bab14.cell (j := 2) rfl
  have lab_14 := Bab14.lt
  have Bbc14 := (Bbc13.ext h14)
  clear Bbc13
  have ibc0_14 := Bbc14.cell (j := 0) rfl
  have ibc1_14 := Bbc14.cell (j := 1) rfl
  have ibc2_14 := Bbc14.cell (j := 2) rfl
  have lbc_14 := Bbc14.lt
  go_wp2_with fail
  generalize hG15 : w14.alloc (.cells #[.slice xp1 xn1 xc1, .slice xp2 xn2 xc2, .slice xp3 xn3 xc3] 31) = w15
  have h15 : Ext w14 w15 := by rw [← hG15]; exact (Ext.refl _).alloc _
  have Bx15 : Blk w15 w14.heap.size 31 [.slice xp1 xn1 xc1, .slice xp2 xn2 xc2, .slice xp3 xn3 xc3] := by rw [← hG15]; exact Blk.new w14 #[.slice xp1 xn1 xc1, .slice xp2 xn2 xc2, .slice xp3 xn3 xc3] 31
  clear hG15
  clear ir0_14 ir1_14 ir2_14 lr_14 ia0_14 ia1_14 ia2_14 la_14 ib0_14 ib1_14 ib2_14 lb_14 ic0_14 ic1_14 ic2_14 lc_14 iab0_14 iab1_14 iab2_14 lab_14 ibc0_14 ibc1_14 ibc2_14 lbc_14
  have Br15 := (Br14.ext h15)
  clear Br14
  have ir0_15 := Br15.cell (j := 0) rfl
  have ir1_15 := Br15.cell (j := 1) rfl
  have ir2_15 := Br15.cell (j := 2) rfl
  have lr_15 := Br15.lt
  have Ba15 := (Ba14.ext h15)
  clear Ba14
  have ia0_15 := Ba15.cell (j := 0) rfl
  have ia1_15 := Ba15.cell (j := 1) rfl
  have ia2_15 := Ba15.cell (j := 2) rfl
  have la_15 := Ba15.lt
  have Bb15 := (Bb14.ext h15)
  clear Bb14
  have ib0_15 := Bb15.cell (j := 0) rfl
  have ib1_15 := Bb15.cell (j := 1) rfl
  have ib2_15 := Bb15.cell (j := 2) rfl
  have lb_15 := Bb15.lt
  have Bc15 := (Bc14.ext h15)
  clear Bc14
  have ic0_15 := Bc15.cell (j := 0) rfl
  have ic1_15 := Bc15.cell (j := 1) rfl
  have ic2_15 := Bc15.cell (j := 2) rfl
  have lc_15 := Bc15.lt
  have Bab15 := (Bab14.ext h15)
  clear Bab14
  have iab0_15 := Bab15.cell (j := 0) rfl
  have iab1_15 := Bab15.cell (j := 1) rfl
  have iab2_15 := Bab15.cell (j := 2) rfl
  have lab_15 := Bab15.lt
  have Bbc15 := (Bbc14.ext h15)
  clear Bbc14
  have ibc0_15 := Bbc15.cell (j := 0) rfl
  have ibc1_15 := Bbc15.cell (j := 1) rfl
  have ibc2_15 := Bbc15.cell (j := 2) rfl
  have lbc_15 := Bbc15.lt
  have Bx15 := Bx15
  have ix0_15 := Bx15.cell (j := 0) rfl
  have ix1_15 := Bx15.cell (j := 1) rfl
  have ix2_15 := Bx15.cell (j := 2) rfl
  have lx_15 := Bx15.lt
  refine (contractPair_any HR.out Ta.out Tbc.out U6 _ _ _ _ (oa.tens.ext (h4.trans (h5.trans (h6.trans (h7.trans (h8.trans (h9.trans (h10.trans (h11.trans (h12.trans (h13.trans (h14.trans h15)))))))))))) (obc.tens.ext (h13.trans (h14.trans h15))) (hU.ext (h10.trans (h11.trans (h12.trans (h13.trans (h14.trans h15))))))).mono ?_; rintro e16 w16 ⟨vy, rfl, oy, h16⟩
  obtain ⟨yp1, yn1, yc1, yp2, yn2, yc2, yp3, yn3, yc3, rfl⟩ := oy.shape
  clear ir0_15 ir1_15 ir2_15 lr_15 ia0_15 ia1_15 ia2_15 la_15 ib0_15 ib1_15 ib2_15 lb_15 ic0_15 ic1_15 ic2_15 lc_15 iab0_15 iab1_15 iab2_15 lab_15 ibc0_15 ibc1_15 ibc2_15 lbc_15 ix0_15 ix1_15 ix2_15 lx_15
  have Br16 := (Br15.ext h16)
  clear Br15
  have ir0_16 := Br16.cell (j := 0) rfl
  have ir1_16 := Br16.cell (j := 1) rfl
  have ir2_16 := Br16.cell (j := 2) rfl
  have lr_16 := Br16.lt
  have Ba16 := (Ba15.ext h16)
  clear Ba15
  have ia0_16 := Ba16.cell (j := 0) rfl
  have ia1_16 := Ba16.cell (j := 1) rfl
  have ia2_16 := Ba16.cell (j := 2) rfl
  have la_16 := Ba16.lt
  have Bb16 := (Bb15.ext h16)
  clear Bb15
  have ib0_16 := Bb16.cell (j := 0) rfl
  have ib1_16 := Bb16.cell (j := 1) rfl
  have ib2_16 := Bb16.cell (j := 2) rfl
  have lb_16 := Bb16.lt
  have Bc16 := (Bc15.ext h16)
  clear Bc15
  have ic0_16 := Bc16.cell (j := 0) rfl
  have ic1_16 := Bc16.cell (j := 1) rfl
  have ic2_16 := Bc16.cell (j := 2) rfl
  have lc_16 := Bc16.lt
  have Bab16 := (Bab15.ext h16)
  clear Bab15
  have iab0_16 := Bab16.cell (j := 0) rfl
  have iab1_16 := Bab16.cell (j := 1) rfl
  have iab2_16 := Bab16.cell (j := 2) rfl
  have lab_16 := Bab16.lt
  have Bbc16 := (Bbc15.ext h16)
  clear Bbc15
  have ibc0_16 := Bbc16.cell (j := 0) rfl
  have ibc1_16 := Bbc16.cell (j := 1) rfl
  have ibc2_16 := Bbc16.cell (j := 2) rfl
  have lbc_16 := Bbc16.lt
  have Bx16 := (Bx15.ext h16)
  clear Bx15
  have ix0_16 := Bx16.cell (j := 0) rfl
  have ix1_16 := Bx16.cell (j := 1) rfl
  have ix2_16 := Bx16.cell (j := 2) rfl
  have lx_16 := Bx16.lt
  go_wp2_with fail
  generalize hG17 : w16.alloc (.cells #[.slice yp1 yn1 yc1, .slice yp2 yn2 yc2, .slice yp3 yn3 yc3] 31) = w17
  have h17 : Ext w16 w17 := by rw [← hG17]; exact (Ext.refl _).alloc _
  have By17 : Blk w17 w16.heap.size 31 [.slice yp1 yn1 yc1, .slice yp2 yn2 yc2, .slice yp3 yn3 yc3] := by rw [← hG17]; exact Blk.new w16 #[.slice yp1 yn1 yc1, .slice yp2 yn2 yc2, .slice yp3 yn3 yc3] 31
  clear hG17
  clear ir0_16 ir1_16 ir2_16 lr_16 ia0_16 ia1_16 ia2_16 la_16 ib0_16 ib1_16 ib2_16 lb_16 ic0_16 ic1_16 ic2_16 lc_16 iab0_16 iab1_16 iab2_16 lab_16 ibc0_16 ibc1_16 ibc2_16 lbc_16 ix0_16 ix1_16 ix2_16 lx_16
  have Br17 := (Br16.ext h17)
  clear Br16
  have ir0_17 := Br17.cell (j := 0) rfl
  have ir1_17 := Br17.cell (j := 1) rfl
  have ir2_17 := Br17.cell (j := 2) rfl
  have lr_17 := Br17.lt
  have Ba17 := (Ba16.ext h17)
  clear Ba16
  have ia0_17 := Ba17.cell (j := 0) rfl
  have ia1_17 := Ba17.cell (j := 1) rfl
  have ia2_17 := Ba17.cell (j := 2) rfl
  have la_17 := Ba17.lt
  have Bb17 := (Bb16.ext h17)
  clear Bb16
  have ib0_17 := Bb17.cell (j := 0) rfl
  have ib1_17 := Bb17.cell (j := 1) rfl
  have ib2_17 := Bb17.cell (j := 2) rfl
  have lb_17 := Bb17.lt
  have Bc17 := (Bc16.ext h17)
  clear Bc16
  have ic0_17 := Bc17.cell (j := 0) rfl
  have ic1_17 := Bc17.cell (j := 1) rfl
  have ic2_17 := Bc17.cell (j := 2) rfl
  have lc_17 := Bc17.lt
  have Bab17 := (Bab16.ext h17)
  clear Bab16
  have iab0_17 := Bab17.cell (j := 0) rfl
  have iab1_17 := Bab17.cell (j := 1) rfl
  have iab2_17 := Bab17.cell (j := 2) rfl
  have lab_17 := Bab17.lt
  have Bbc17 := (Bbc16.ext h17)
  clear Bbc16
  have ibc0_17 := Bbc17.cell (j := 0) rfl
  have ibc1_17 := Bbc17.cell (j := 1) rfl
  have ibc2_17 := Bbc17.cell (j := 2) rfl
  have lbc_17 := Bbc17.lt
  have Bx17 := (Bx16.ext h17)
  clear Bx16
  have ix0_17 := Bx17.cell (j := 0) rfl
  have ix1_17 := Bx17.cell (j := 1) rfl
  have ix2_17 := Bx17.cell (j := 2) rfl
  have lx_17 := Bx17.lt
  have By17 := By17
  have iy0_17 := By17.cell (j := 0) rfl
  have iy1_17 := By17.cell (j := 1) rfl
  have iy2_17 := By17.cell (j := 2) rfl
  have ly_17 := By17.lt
  have TX := Lib.hid (contr_isT HR.out Tab.out Tc.out U6)
  have TY := Lib.hid (contr_isT HR.out Ta.out Tbc.out U6)
  have HA := Lib.hid (assoc_data HR.out Ta.out Tb.out Tc.out)
  refine (sameTensor_yes HR.out TX.out TY.out (by rw [HA.out.1]) (by rw [HA.out.1, HA.out.2]) _ _ _ (ox.tens.ext (h15.trans (h16.trans h17))) (oy.tens.ext h17)).mono ?_; rintro e18 w18 ⟨rfl, h18⟩
  clear ir0_17 ir1_17 ir2_17 lr_17 ia0_17 ia1_17 ia2_17 la_17 ib0_17 ib1_17 ib2_17 lb_17 ic0_17 ic1_17 ic2_17 lc_17 iab0_17 iab1_17 iab2_17 lab_17 ibc0_17 ibc1_17 ibc2_17 lbc_17 ix0_17 ix1_17 ix2_17 lx_17 iy0_17 iy1_17 iy2_17 ly_17
  have Br18 := (Br17.ext h18)
  clear Br17
  have ir0_18 := Br18.cell (j := 0) rfl
  have ir1_18 := Br18.cell (j := 1) rfl
  have ir2_18 := Br18.cell (j := 2) rfl
  have lr_18 := Br18.lt
  have Ba18 := (Ba17.ext h18)
  clear Ba17
  have ia0_18 := Ba18.cell (j := 0) rfl
  have ia1_18 := Ba18.cell (j := 1) rfl
  have ia2_18 := Ba18.cell (j := 2) rfl
  have la_18 := Ba18.lt
  have Bb18 := (Bb17.ext h18)
  clear Bb17
  have ib0_18 := Bb18.cell (j := 0) rfl
  have ib1_18 := Bb18.cell (j := 1) rfl
  have ib2_18 := Bb18.cell (j := 2) rfl
  have lb_18 := Bb18.lt
  have Bc18 := (Bc17.ext h18)
  clear Bc17
  have ic0_18 := Bc18.cell (j := 0) rfl
  have ic1_18 := Bc18.cell (j := 1) rfl
  have ic2_18 := Bc18.cell (j := 2) rfl
  have lc_18 := Bc18.lt
  have Bab18 := (Bab17.ext h18)
  clear Bab17
  have iab0_18 := Bab18.cell (j := 0) rfl
  have iab1_18 := Bab18.cell (j := 1) rfl
  have iab2_18 := Bab18.cell (j := 2) rfl
  have lab_18 := Bab18.lt
  have Bbc18 := (Bbc17.ext h18)
  clear Bbc17
  have ibc0_18 := Bbc18.cell (j := 0) rfl
  have ibc1_18 := Bbc18.cell (j := 1) rfl
  have ibc2_18 := Bbc18.cell (j := 2) rfl
  have lbc_18 := Bbc18.lt
  have Bx18 := (Bx17.ext h18)
  clear Bx17
  have ix0_18 := Bx18.cell (j := 0) rfl
  have ix1_18 := Bx18.cell (j := 1) rfl
  have ix2_18 := Bx18.cell (j := 2) rfl
  have lx_18 := Bx18.lt
  have By18 := (By17.ext h18)
  clear By17
  have iy0_18 := By18.cell (j := 0) rfl
  have iy1_18 := By18.cell (j := 1) rfl
  have iy2_18 := By18.cell (j := 2) rfl
  have ly_18 := By18.lt
  go_wp2_with fail
  go_upto_region 14 with fail
  have h19 : Ext w18 w18.drew := (Ext.refl _).drew
  go_region_held3 (fun w' => w'.cell? ⟨w1.heap.size, 0, none⟩ = some (.int .i64 k) ∧ w'.cell? ⟨w1.heap.size, 1, none⟩ = some (.int .i64 p) ∧ w'.cell? ⟨w1.heap.size, 2, none⟩ = some (.int .i64 n) ∧ w'.cell? ⟨w3.heap.size, 0, none⟩ = some (.slice ap1 an1 ac1) ∧ w'.cell? ⟨w3.heap.size, 1, none⟩ = some (.slice ap2 an2 ac2) ∧ w'.cell? ⟨w3.heap.size, 2, none⟩ = some (.slice ap3 an3 ac3) ∧ w'.cell? ⟨w5.heap.size, 0, none⟩ = some (.slice bp1 bn1 bc1) ∧ w'.cell? ⟨w5.heap.size, 1, none⟩ = some (.slice bp2 bn2 bc2) ∧ w'.cell? ⟨w5.heap.size, 2, none⟩ = some (.slice bp3 bn3 bc3) ∧ w'.cell? ⟨w10.heap.size, 0, none⟩ = some (.slice abp1 abn1 abc1) ∧ w'.cell? ⟨w10.heap.size, 1, none⟩ = some (.slice abp2 abn2 abc2) ∧ w'.cell? ⟨w10.heap.size, 2, none⟩ = some (.slice abp3 abn3 abc3))
    (refine ⟨?_, ?_, ?_, ?_, ?_, ?_, ?_, ?_, ?_, ?_, ?_, ?_⟩ <;> first | (with_reducible assumption) | exact ((Ext.refl _).drew).cell (by with_reducible assumption) | exact ((Ext.refl _).alloc _).cell (by with_reducible assumption) | (simp [*]; done))
    (first | (go_at_call 13; (with_reducible refine (makeSome_any _ l 160 6 w18.drew (hC.ext (h1.trans (h2.trans (h3.trans (h4.trans (h5.trans (h6.trans (h7.trans (h8.trans (h9.trans (h10.trans (h11.trans (h12.trans (h13.trans (h14.trans (h15.trans (h16.trans (h17.trans (h18.trans h19))))))))))))))))))) (by omega) (by omega)).mono ?_); rintro e20 w20 ⟨vs, KS, rfl, os, hKS, h20⟩; obtain ⟨ak2, ck2, rfl, _, _⟩ := os.ints.val; have c20_0 := (h19.trans h20).cell ir0_18; have c20_1 := (h19.trans h20).cell ir1_18; have c20_2 := (h19.trans h20).cell ir2_18; have c20_3 := (h19.trans h20).cell ia0_18; have c20_4 := (h19.trans h20).cell ia1_18; have c20_5 := (h19.trans h20).cell ia2_18; have c20_6 := (h19.trans h20).cell ib0_18; have c20_7 := (h19.trans h20).cell ib1_18; have c20_8 := (h19.trans h20).cell ib2_18; have c20_9 := (h19.trans h20).cell iab0_18; have c20_10 := (h19.trans h20).cell iab1_18; have c20_11 := (h19.trans h20).cell iab2_18) | (go_at_call 21; (with_reducible refine (lawsJoin_any _ _ b KS w20 (ob.tens.labs.ext (h6.trans (h7.trans (h8.trans (h9.trans (h10.trans (h11.trans (h12.trans (h13.trans (h14.trans (h15.trans (h16.trans (h17.trans (h18.trans (h19.trans h20))))))))))))))) os.ints (by omega) (by omega)).mono ?_); rintro e21 w21 ⟨vk, rfl, ok, h21⟩; obtain ⟨K, hK⟩ : ∃ K, b ++ KS = K := ⟨_, rfl⟩; have HKb : Hid (∀ x ∈ b, x ∈ K) := Lib.hid (fun x hx => by rw [← hK]; simp [hx]); rw [hK] at ok; obtain ⟨ak, ck, rfl, _, _⟩ := ok.ints.val; clear hK; have c21_0 := (h19.trans (h20.trans h21)).cell ir0_18; have c21_1 := (h19.trans (h20.trans h21)).cell ir1_18; have c21_2 := (h19.trans (h20.trans h21)).cell ir2_18; have c21_3 := (h19.trans (h20.trans h21)).cell ia0_18; have c21_4 := (h19.trans (h20.trans h21)).cell ia1_18; have c21_5 := (h19.trans (h20.trans h21)).cell ia2_18; have c21_6 := (h19.trans (h20.trans h21)).cell ib0_18; have c21_7 := (h19.trans (h20.trans h21)).cell ib1_18; have c21_8 := (h19.trans (h20.trans h21)).cell ib2_18; have c21_9 := (h19.trans (h20.trans h21)).cell iab0_18; have c21_10 := (h19.trans (h20.trans h21)).cell iab1_18; have c21_11 := (h19.trans (h20.trans h21)).cell iab2_18))
  clear ir0_18 ir1_18 ir2_18 lr_18 ia0_18 ia1_18 ia2_18 la_18 ib0_18 ib1_18 ib2_18 lb_18 ic0_18 ic1_18 ic2_18 lc_18 iab0_18 iab1_18 iab2_18 lab_18 ibc0_18 ibc1_18 ibc2_18 lbc_18 ix0_18 ix1_18 ix2_18 lx_18 iy0_18 iy1_18 iy2_18 ly_18
  have Br21 := (Br18.ext (h19.trans (h20.trans h21)))
  clear Br18
  have ir0_21 := Br21.cell (j := 0) rfl
  have ir1_21 := Br21.cell (j := 1) rfl
  have ir2_21 := Br21.cell (j := 2) rfl
  have lr_21 := Br21.lt
  have Ba21 := (Ba18.ext (h19.trans (h20.trans h21)))
  clear Ba18
  have ia0_21 := Ba21.cell (j := 0) rfl
  have ia1_21 := Ba21.cell (j := 1) rfl
  have ia2_21 := Ba21.cell (j := 2) rfl
  have la_21 := Ba21.lt
  have Bb21 := (Bb18.ext (h19.trans (h20.trans h21)))
  clear Bb18
  have ib0_21 := Bb21.cell (j := 0) rfl
  have ib1_21 := Bb21.cell (j := 1) rfl
  have ib2_21 := Bb21.cell (j := 2) rfl
  have lb_21 := Bb21.lt
  have Bab21 := (Bab18.ext (h19.trans (h20.trans h21)))
  clear Bab18
  have iab0_21 := Bab21.cell (j := 0) rfl
  have iab1_21 := Bab21.cell (j := 1) rfl
  have iab2_21 := Bab21.cell (j := 2) rfl
  have lab_21 := Bab21.lt
  go_wp2_with fail
  refine (contractPair_any HR.out Ta.out Tb.out K _ _ _ _ (oa.tens.ext (h4.trans (h5.trans (h6.trans (h7.trans (h8.trans (h9.trans (h10.trans (h11.trans (h12.trans (h13.trans (h14.trans (h15.trans (h16.trans (h17.trans (h18.trans (h19.trans (h20.trans h21)))))))))))))))))) (ob.tens.ext (h6.trans (h7.trans (h8.trans (h9.trans (h10.trans (h11.trans (h12.trans (h13.trans (h14.trans (h15.trans (h16.trans (h17.trans (h18.trans (h19.trans (h20.trans h21)))))))))))))))) ok.ints).mono ?_; rintro e22 w22 ⟨vz, rfl, oz, h22⟩
  obtain ⟨zp1, zn1, zc1, zp2, zn2, zc2, zp3, zn3, zc3, rfl⟩ := oz.shape
  clear ir0_21 ir1_21 ir2_21 lr_21 ia0_21 ia1_21 ia2_21 la_21 ib0_21 ib1_21 ib2_21 lb_21 iab0_21 iab1_21 iab2_21 lab_21
  have Br22 := (Br21.ext h22)
  clear Br21
  have ir0_22 := Br22.cell (j := 0) rfl
  have ir1_22 := Br22.cell (j := 1) rfl
  have ir2_22 := Br22.cell (j := 2) rfl
  have lr_22 := Br22.lt
  have Ba22 := (Ba21.ext h22)
  clear Ba21
  have ia0_22 := Ba22.cell (j := 0) rfl
  have ia1_22 := Ba22.cell (j := 1) rfl
  have ia2_22 := Ba22.cell (j := 2) rfl
  have la_22 := Ba22.lt
  have Bb22 := (Bb21.ext h22)
  clear Bb21
  have ib0_22 := Bb22.cell (j := 0) rfl
  have ib1_22 := Bb22.cell (j := 1) rfl
  have ib2_22 := Bb22.cell (j := 2) rfl
  have lb_22 := Bb22.lt
  have Bab22 := (Bab21.ext h22)
  clear Bab21
  have iab0_22 := Bab22.cell (j := 0) rfl
  have iab1_22 := Bab22.cell (j := 1) rfl
  have iab2_22 := Bab22.cell (j := 2) rfl
  have lab_22 := Bab22.lt
  go_wp2_with fail
  generalize hG23 : w22.alloc (.cells #[.slice zp1 zn1 zc1, .slice zp2 zn2 zc2, .slice zp3 zn3 zc3] 31) = w23
  have h23 : Ext w22 w23 := by rw [← hG23]; exact (Ext.refl _).alloc _
  have Bz23 : Blk w23 w22.heap.size 31 [.slice zp1 zn1 zc1, .slice zp2 zn2 zc2, .slice zp3 zn3 zc3] := by rw [← hG23]; exact Blk.new w22 #[.slice zp1 zn1 zc1, .slice zp2 zn2 zc2, .slice zp3 zn3 zc3] 31
  clear hG23
  clear ir0_22 ir1_22 ir2_22 lr_22 ia0_22 ia1_22 ia2_22 la_22 ib0_22 ib1_22 ib2_22 lb_22 iab0_22 iab1_22 iab2_22 lab_22
  have Br23 := (Br22.ext h23)
  clear Br22
  have ir0_23 := Br23.cell (j := 0) rfl
  have ir1_23 := Br23.cell (j := 1) rfl
  have ir2_23 := Br23.cell (j := 2) rfl
  have lr_23 := Br23.lt
  have Ba23 := (Ba22.ext h23)
  clear Ba22
  have ia0_23 := Ba23.cell (j := 0) rfl
  have ia1_23 := Ba23.cell (j := 1) rfl
  have ia2_23 := Ba23.cell (j := 2) rfl
  have la_23 := Ba23.lt
  have Bb23 := (Bb22.ext h23)
  clear Bb22
  have ib0_23 := Bb23.cell (j := 0) rfl
  have ib1_23 := Bb23.cell (j := 1) rfl
  have ib2_23 := Bb23.cell (j := 2) rfl
  have lb_23 := Bb23.lt
  have Bab23 := (Bab22.ext h23)
  clear Bab22
  have iab0_23 := Bab23.cell (j := 0) rfl
  have iab1_23 := Bab23.cell (j := 1) rfl
  have iab2_23 := Bab23.cell (j := 2) rfl
  have lab_23 := Bab23.lt
  have Bz23 := Bz23
  have iz0_23 := Bz23.cell (j := 0) rfl
  have iz1_23 := Bz23.cell (j := 1) rfl
  have iz2_23 := Bz23.cell (j := 2) rfl
  have lz_23 := Bz23.lt
  have TS := Lib.hid (sum_isT HR.out Ta.out K)
  have D0 : Ext w23 w23.drew := (Ext.refl _).drew
  have hn0 : w1.heap.size ≠ w23.heap.size := by omega
  have hn1 : w3.heap.size ≠ w23.heap.size := by omega
  have hn2 : w5.heap.size ≠ w23.heap.size := by omega
  go_upto_region 16 with fail
  go_cut [19, 20] from 21 (fun q ok wx => ∃ bu wwp1 wwn1 wwc1 wwp2 wwn2 wwc2 wwp3 wwn3 wwc3, q = .pointer (some ⟨bu, 0, none⟩) ∧ ok = .bool true ∧ Blk wx bu 31 [.slice wwp1 wwn1 wwc1, .slice wwp2 wwn2 wwc2, .slice wwp3 wwn3 wwc3] ∧ Ext w23 wx ∧ OwnT wx w23.heap.size (.agg #[.slice wwp1 wwn1 wwc1, .slice wwp2 wwn2 wwc2, .slice wwp3 wwn3 wwc3]) (keepL (joinL (keepL a K) b) K) ((keepL (joinL (keepL a K) b) K).map dimOf) (flat (contrXs HR.out dimOf (keepL a K) b K (sumXs HR.out dimOf a K xsa) xsb)))
  case first =>
    refine wp_region_held_drew (S := fun w' => w'.cell? ⟨w1.heap.size, 0, none⟩ = some (.int .i64 k) ∧ w'.cell? ⟨w1.heap.size, 1, none⟩ = some (.int .i64 p) ∧ w'.cell? ⟨w1.heap.size, 2, none⟩ = some (.int .i64 n) ∧ w'.cell? ⟨w3.heap.size, 0, none⟩ = some (.slice ap1 an1 ac1) ∧ w'.cell? ⟨w3.heap.size, 1, none⟩ = some (.slice ap2 an2 ac2) ∧ w'.cell? ⟨w3.heap.size, 2, none⟩ = some (.slice ap3 an3 ac3) ∧ w'.cell? ⟨w5.heap.size, 0, none⟩ = some (.slice bp1 bn1 bc1) ∧ w'.cell? ⟨w5.heap.size, 1, none⟩ = some (.slice bp2 bn2 bc2) ∧ w'.cell? ⟨w5.heap.size, 2, none⟩ = some (.slice bp3 bn3 bc3)) (by kernel_rfl) ?_ (fun hHeld => ?_)
    · (first | (with_reducible exact ⟨D0.cell ir0_23, D0.cell ir1_23, D0.cell ir2_23, D0.cell ia0_23, D0.cell ia1_23, D0.cell ia2_23, D0.cell ib0_23, D0.cell ib1_23, D0.cell ib2_23⟩) | (with_reducible exact ⟨(((Ext.refl w23).alloc _).drew).cell ir0_23, (((Ext.refl w23).alloc _).drew).cell ir1_23, (((Ext.refl w23).alloc _).drew).cell ir2_23, (((Ext.refl w23).alloc _).drew).cell ia0_23, (((Ext.refl w23).alloc _).drew).cell ia1_23, (((Ext.refl w23).alloc _).drew).cell ia2_23, (((Ext.refl w23).alloc _).drew).cell ib0_23, (((Ext.refl w23).alloc _).drew).cell ib1_23, (((Ext.refl w23).alloc _).drew).cell ib2_23⟩) | (with_reducible exact ⟨x_0, x_1, x_2, x_3, x_4, x_5, x_6, x_7, x_8⟩) | (with_reducible exact ⟨(Ea.alloc _).cell ir0_23, (Ea.alloc _).cell ir1_23, (Ea.alloc _).cell ir2_23, (Ea.alloc _).cell ia0_23, (Ea.alloc _).cell ia1_23, (Ea.alloc _).cell ia2_23, (Ea.alloc _).cell ib0_23, (Ea.alloc _).cell ib1_23, (Ea.alloc _).cell ib2_23⟩) | (with_reducible exact ⟨y_0, y_1, y_2, y_3, y_4, y_5, y_6, y_7, y_8⟩) | (with_reducible exact ⟨(Eb.alloc _).cell ir0_23, (Eb.alloc _).cell ir1_23, (Eb.alloc _).cell ir2_23, (Eb.alloc _).cell ia0_23, (Eb.alloc _).cell ia1_23, (Eb.alloc _).cell ia2_23, (Eb.alloc _).cell ib0_23, (Eb.alloc _).cell ib1_23, (Eb.alloc _).cell ib2_23⟩) | (with_reducible exact ⟨grown_cell (b := w23.heap.size) (grown_setCell (grown_setCell (grown_setCell (grown_refl _ _) _ _) _ _) _ _) hn0 y_0, grown_cell (b := w23.heap.size) (grown_setCell (grown_setCell (grown_setCell (grown_refl _ _) _ _) _ _) _ _) hn0 y_1, grown_cell (b := w23.heap.size) (grown_setCell (grown_setCell (grown_setCell (grown_refl _ _) _ _) _ _) _ _) hn0 y_2, grown_cell (b := w23.heap.size) (grown_setCell (grown_setCell (grown_setCell (grown_refl _ _) _ _) _ _) _ _) hn1 y_3, grown_cell (b := w23.heap.size) (grown_setCell (grown_setCell (grown_setCell (grown_refl _ _) _ _) _ _) _ _) hn1 y_4, grown_cell (b := w23.heap.size) (grown_setCell (grown_setCell (grown_setCell (grown_refl _ _) _ _) _ _) _ _) hn1 y_5, grown_cell (b := w23.heap.size) (grown_setCell (grown_setCell (grown_setCell (grown_refl _ _) _ _) _ _) _ _) hn2 y_6, grown_cell (b := w23.heap.size) (grown_setCell (grown_setCell (grown_setCell (grown_refl _ _) _ _) _ _) _ _) hn2 y_7, grown_cell (b := w23.heap.size) (grown_setCell (grown_setCell (grown_setCell (grown_refl _ _) _ _) _ _) _ _) hn2 y_8⟩) | (with_reducible exact ⟨grown_cell (b := wa.heap.size) (grown_setCell (grown_setCell (grown_setCell (grown_refl _ _) _ _) _ _) _ _) hm0 y_0, grown_cell (b := wa.heap.size) (grown_setCell (grown_setCell (grown_setCell (grown_refl _ _) _ _) _ _) _ _) hm0 y_1, grown_cell (b := wa.heap.size) (grown_setCell (grown_setCell (grown_setCell (grown_refl _ _) _ _) _ _) _ _) hm0 y_2, grown_cell (b := wa.heap.size) (grown_setCell (grown_setCell (grown_setCell (grown_refl _ _) _ _) _ _) _ _) hm1 y_3, grown_cell (b := wa.heap.size) (grown_setCell (grown_setCell (grown_setCell (grown_refl _ _) _ _) _ _) _ _) hm1 y_4, grown_cell (b := wa.heap.size) (grown_setCell (grown_setCell (grown_setCell (grown_refl _ _) _ _) _ _) _ _) hm1 y_5, grown_cell (b := wa.heap.size) (grown_setCell (grown_setCell (grown_setCell (grown_refl _ _) _ _) _ _) _ _) hm2 y_6, grown_cell (b := wa.heap.size) (grown_setCell (grown_setCell (grown_setCell (grown_refl _ _) _ _) _ _) _ _) hm2 y_7, grown_cell (b := wa.heap.size) (grown_setCell (grown_setCell (grown_setCell (grown_refl _ _) _ _) _ _) _ _) hm2 y_8⟩))
    refine wpAnyH_take (i := 0) (v := ?_) rfl (by kernel_rfl) (by kernel_rfl) (by kernel_rfl) (fun _ _ _ h => h) (Or.inl ⟨by rfl, ?_⟩) (by assumption) ?_
    rotate_left
    · intro w hSw; (try dsimp only at hSw); go_simp; (try with_reducible rfl)
    (try go_simp)
    refine wpAnyH_take (i := 1) (v := ?_) rfl (by kernel_rfl) (by kernel_rfl) (by kernel_rfl) (fun _ _ _ h => h) (Or.inl ⟨by rfl, ?_⟩) (by assumption) ?_
    rotate_left
    · intro w hSw; (try dsimp only at hSw); go_simp; (try with_reducible rfl)
    (try go_simp)
    refine wpAnyH_take (i := 2) (v := ?_) rfl (by kernel_rfl) (by kernel_rfl) (by kernel_rfl) (fun _ _ _ h => h) (Or.inl ⟨by rfl, ?_⟩) (by assumption) ?_
    rotate_left
    · intro w hSw; (try dsimp only at hSw); go_simp; (try with_reducible rfl)
    (try go_simp)
    refine wpAnyH_take (i := 3) (v := ?_) rfl (by kernel_rfl) (by kernel_rfl) (by kernel_rfl) (fun _ _ _ h => h) (Or.inl ⟨by rfl, ?_⟩) (by assumption) ?_
    rotate_left
    · intro w hSw; (try dsimp only at hSw); go_simp; (try with_reducible rfl)
    (try go_simp)
    refine wpAnyH_take (i := 5) (v := ?_) rfl (by kernel_rfl) (by kernel_rfl) (by kernel_rfl) (fun _ _ _ h => h) (Or.inl ⟨by rfl, ?_⟩) (by assumption) ?_
    rotate_left
    · intro w hSw; (try dsimp only at hSw); go_simp; (try with_reducible rfl)
    (try go_simp)
    refine wpAnyH_take (i := 6) (v := ?_) rfl (by kernel_rfl) (by kernel_rfl) (by kernel_rfl) (fun _ _ _ h => h) (Or.inl ⟨by rfl, ?_⟩) (by assumption) ?_
    rotate_left
    · intro w hSw; (try dsimp only at hSw); go_simp; (try with_reducible rfl)
    (try go_simp)
    refine wpAnyH_ready (rs := [4, 11]) (by kernel_rfl) (by simp) ?_
    refine AllReadyH.cons rfl (fun Kc hKc => ?_) ?_
    · skip
      go_simp; go_at_call 22
      (with_reducible refine (sumLabels_any HR.out Ta.out K _ _ w23.drew ((oa.tens.ext (h4.trans (h5.trans (h6.trans (h7.trans (h8.trans (h9.trans (h10.trans (h11.trans (h12.trans (h13.trans (h14.trans (h15.trans (h16.trans (h17.trans (h18.trans (h19.trans (h20.trans (h21.trans (h22.trans h23)))))))))))))))))))).ext D0) ((ok.ints.ext (h22.trans h23)).ext D0)).mono ?_); rintro e3 wa ⟨v3, rfl, o3, ha⟩; have Ea : Ext w23 wa := D0.trans ha; have x_0 := Ea.cell ir0_23; have x_1 := Ea.cell ir1_23; have x_2 := Ea.cell ir2_23; have x_3 := Ea.cell ia0_23; have x_4 := Ea.cell ia1_23; have x_5 := Ea.cell ia2_23; have x_6 := Ea.cell ib0_23; have x_7 := Ea.cell ib1_23; have x_8 := Ea.cell ib2_23; have hEas := Ea.size; obtain ⟨sp1, sn1, sc1, sp2, sn2, sc2, sp3, sn3, sc3, rfl⟩ := o3.shape; have hm0 : w1.heap.size ≠ wa.heap.size := (by omega); have hm1 : w3.heap.size ≠ wa.heap.size := (by omega); have hm2 : w5.heap.size ≠ wa.heap.size := (by omega)
      (try go_simp)
      refine hKc.out _ _ ?_ (fun hHeld => ?_) <;> clear hKc Kc
      · (first | (with_reducible exact ⟨D0.cell ir0_23, D0.cell ir1_23, D0.cell ir2_23, D0.cell ia0_23, D0.cell ia1_23, D0.cell ia2_23, D0.cell ib0_23, D0.cell ib1_23, D0.cell ib2_23⟩) | (with_reducible exact ⟨(((Ext.refl w23).alloc _).drew).cell ir0_23, (((Ext.refl w23).alloc _).drew).cell ir1_23, (((Ext.refl w23).alloc _).drew).cell ir2_23, (((Ext.refl w23).alloc _).drew).cell ia0_23, (((Ext.refl w23).alloc _).drew).cell ia1_23, (((Ext.refl w23).alloc _).drew).cell ia2_23, (((Ext.refl w23).alloc _).drew).cell ib0_23, (((Ext.refl w23).alloc _).drew).cell ib1_23, (((Ext.refl w23).alloc _).drew).cell ib2_23⟩) | (with_reducible exact ⟨x_0, x_1, x_2, x_3, x_4, x_5, x_6, x_7, x_8⟩) | (with_reducible exact ⟨(Ea.alloc _).cell ir0_23, (Ea.alloc _).cell ir1_23, (Ea.alloc _).cell ir2_23, (Ea.alloc _).cell ia0_23, (Ea.alloc _).cell ia1_23, (Ea.alloc _).cell ia2_23, (Ea.alloc _).cell ib0_23, (Ea.alloc _).cell ib1_23, (Ea.alloc _).cell ib2_23⟩) | (with_reducible exact ⟨y_0, y_1, y_2, y_3, y_4, y_5, y_6, y_7, y_8⟩) | (with_reducible exact ⟨(Eb.alloc _).cell ir0_23, (Eb.alloc _).cell ir1_23, (Eb.alloc _).cell ir2_23, (Eb.alloc _).cell ia0_23, (Eb.alloc _).cell ia1_23, (Eb.alloc _).cell ia2_23, (Eb.alloc _).cell ib0_23, (Eb.alloc _).cell ib1_23, (Eb.alloc _).cell ib2_23⟩) | (with_reducible exact ⟨grown_cell (b := w23.heap.size) (grown_setCell (grown_setCell (grown_setCell (grown_refl _ _) _ _) _ _) _ _) hn0 y_0, grown_cell (b := w23.heap.size) (grown_setCell (grown_setCell (grown_setCell (grown_refl _ _) _ _) _ _) _ _) hn0 y_1, grown_cell (b := w23.heap.size) (grown_setCell (grown_setCell (grown_setCell (grown_refl _ _) _ _) _ _) _ _) hn0 y_2, grown_cell (b := w23.heap.size) (grown_setCell (grown_setCell (grown_setCell (grown_refl _ _) _ _) _ _) _ _) hn1 y_3, grown_cell (b := w23.heap.size) (grown_setCell (grown_setCell (grown_setCell (grown_refl _ _) _ _) _ _) _ _) hn1 y_4, grown_cell (b := w23.heap.size) (grown_setCell (grown_setCell (grown_setCell (grown_refl _ _) _ _) _ _) _ _) hn1 y_5, grown_cell (b := w23.heap.size) (grown_setCell (grown_setCell (grown_setCell (grown_refl _ _) _ _) _ _) _ _) hn2 y_6, grown_cell (b := w23.heap.size) (grown_setCell (grown_setCell (grown_setCell (grown_refl _ _) _ _) _ _) _ _) hn2 y_7, grown_cell (b := w23.heap.size) (grown_setCell (grown_setCell (grown_setCell (grown_refl _ _) _ _) _ _) _ _) hn2 y_8⟩) | (with_reducible exact ⟨grown_cell (b := wa.heap.size) (grown_setCell (grown_setCell (grown_setCell (grown_refl _ _) _ _) _ _) _ _) hm0 y_0, grown_cell (b := wa.heap.size) (grown_setCell (grown_setCell (grown_setCell (grown_refl _ _) _ _) _ _) _ _) hm0 y_1, grown_cell (b := wa.heap.size) (grown_setCell (grown_setCell (grown_setCell (grown_refl _ _) _ _) _ _) _ _) hm0 y_2, grown_cell (b := wa.heap.size) (grown_setCell (grown_setCell (grown_setCell (grown_refl _ _) _ _) _ _) _ _) hm1 y_3, grown_cell (b := wa.heap.size) (grown_setCell (grown_setCell (grown_setCell (grown_refl _ _) _ _) _ _) _ _) hm1 y_4, grown_cell (b := wa.heap.size) (grown_setCell (grown_setCell (grown_setCell (grown_refl _ _) _ _) _ _) _ _) hm1 y_5, grown_cell (b := wa.heap.size) (grown_setCell (grown_setCell (grown_setCell (grown_refl _ _) _ _) _ _) _ _) hm2 y_6, grown_cell (b := wa.heap.size) (grown_setCell (grown_setCell (grown_setCell (grown_refl _ _) _ _) _ _) _ _) hm2 y_7, grown_cell (b := wa.heap.size) (grown_setCell (grown_setCell (grown_setCell (grown_refl _ _) _ _) _ _) _ _) hm2 y_8⟩))
      refine wpAnyH_ready (rs := [7, 11]) (by kernel_rfl) (by simp) ?_
      refine AllReadyH.cons rfl (fun Kc hKc => ?_) ?_
      · skip
        go_simp; go_at_call 14
        (with_reducible refine (contractPair_any HR.out TS.out Tb.out K _ _ _ wa (o3.tens.ext (Ext.refl wa)) ((ob.tens.ext (h6.trans (h7.trans (h8.trans (h9.trans (h10.trans (h11.trans (h12.trans (h13.trans (h14.trans (h15.trans (h16.trans (h17.trans (h18.trans (h19.trans (h20.trans (h21.trans (h22.trans h23)))))))))))))))))).ext Ea) ((ok.ints.ext (h22.trans h23)).ext Ea)).mono ?_); rintro e4 wb ⟨v4, rfl, oww, hb⟩; obtain ⟨wwp1, wwn1, wwc1, wwp2, wwn2, wwc2, wwp3, wwn3, wwc3, rfl⟩ := oww.shape; have Eb : Ext w23 wb := Ea.trans hb; have y_0 := Eb.cell ir0_23; have y_1 := Eb.cell ir1_23; have y_2 := Eb.cell ir2_23; have y_3 := Eb.cell ia0_23; have y_4 := Eb.cell ia1_23; have y_5 := Eb.cell ia2_23; have y_6 := Eb.cell ib0_23; have y_7 := Eb.cell ib1_23; have y_8 := Eb.cell ib2_23; have hEbs := Eb.size; have o4m := oww.mono (B' := w23.heap.size) (by omega)
        (try go_simp)
        refine hKc.out _ _ ?_ (fun hHeld => ?_) <;> clear hKc Kc
        · (first | (with_reducible exact ⟨D0.cell ir0_23, D0.cell ir1_23, D0.cell ir2_23, D0.cell ia0_23, D0.cell ia1_23, D0.cell ia2_23, D0.cell ib0_23, D0.cell ib1_23, D0.cell ib2_23⟩) | (with_reducible exact ⟨(((Ext.refl w23).alloc _).drew).cell ir0_23, (((Ext.refl w23).alloc _).drew).cell ir1_23, (((Ext.refl w23).alloc _).drew).cell ir2_23, (((Ext.refl w23).alloc _).drew).cell ia0_23, (((Ext.refl w23).alloc _).drew).cell ia1_23, (((Ext.refl w23).alloc _).drew).cell ia2_23, (((Ext.refl w23).alloc _).drew).cell ib0_23, (((Ext.refl w23).alloc _).drew).cell ib1_23, (((Ext.refl w23).alloc _).drew).cell ib2_23⟩) | (with_reducible exact ⟨x_0, x_1, x_2, x_3, x_4, x_5, x_6, x_7, x_8⟩) | (with_reducible exact ⟨(Ea.alloc _).cell ir0_23, (Ea.alloc _).cell ir1_23, (Ea.alloc _).cell ir2_23, (Ea.alloc _).cell ia0_23, (Ea.alloc _).cell ia1_23, (Ea.alloc _).cell ia2_23, (Ea.alloc _).cell ib0_23, (Ea.alloc _).cell ib1_23, (Ea.alloc _).cell ib2_23⟩) | (with_reducible exact ⟨y_0, y_1, y_2, y_3, y_4, y_5, y_6, y_7, y_8⟩) | (with_reducible exact ⟨(Eb.alloc _).cell ir0_23, (Eb.alloc _).cell ir1_23, (Eb.alloc _).cell ir2_23, (Eb.alloc _).cell ia0_23, (Eb.alloc _).cell ia1_23, (Eb.alloc _).cell ia2_23, (Eb.alloc _).cell ib0_23, (Eb.alloc _).cell ib1_23, (Eb.alloc _).cell ib2_23⟩) | (with_reducible exact ⟨grown_cell (b := w23.heap.size) (grown_setCell (grown_setCell (grown_setCell (grown_refl _ _) _ _) _ _) _ _) hn0 y_0, grown_cell (b := w23.heap.size) (grown_setCell (grown_setCell (grown_setCell (grown_refl _ _) _ _) _ _) _ _) hn0 y_1, grown_cell (b := w23.heap.size) (grown_setCell (grown_setCell (grown_setCell (grown_refl _ _) _ _) _ _) _ _) hn0 y_2, grown_cell (b := w23.heap.size) (grown_setCell (grown_setCell (grown_setCell (grown_refl _ _) _ _) _ _) _ _) hn1 y_3, grown_cell (b := w23.heap.size) (grown_setCell (grown_setCell (grown_setCell (grown_refl _ _) _ _) _ _) _ _) hn1 y_4, grown_cell (b := w23.heap.size) (grown_setCell (grown_setCell (grown_setCell (grown_refl _ _) _ _) _ _) _ _) hn1 y_5, grown_cell (b := w23.heap.size) (grown_setCell (grown_setCell (grown_setCell (grown_refl _ _) _ _) _ _) _ _) hn2 y_6, grown_cell (b := w23.heap.size) (grown_setCell (grown_setCell (grown_setCell (grown_refl _ _) _ _) _ _) _ _) hn2 y_7, grown_cell (b := w23.heap.size) (grown_setCell (grown_setCell (grown_setCell (grown_refl _ _) _ _) _ _) _ _) hn2 y_8⟩) | (with_reducible exact ⟨grown_cell (b := wa.heap.size) (grown_setCell (grown_setCell (grown_setCell (grown_refl _ _) _ _) _ _) _ _) hm0 y_0, grown_cell (b := wa.heap.size) (grown_setCell (grown_setCell (grown_setCell (grown_refl _ _) _ _) _ _) _ _) hm0 y_1, grown_cell (b := wa.heap.size) (grown_setCell (grown_setCell (grown_setCell (grown_refl _ _) _ _) _ _) _ _) hm0 y_2, grown_cell (b := wa.heap.size) (grown_setCell (grown_setCell (grown_setCell (grown_refl _ _) _ _) _ _) _ _) hm1 y_3, grown_cell (b := wa.heap.size) (grown_setCell (grown_setCell (grown_setCell (grown_refl _ _) _ _) _ _) _ _) hm1 y_4, grown_cell (b := wa.heap.size) (grown_setCell (grown_setCell (grown_setCell (grown_refl _ _) _ _) _ _) _ _) hm1 y_5, grown_cell (b := wa.heap.size) (grown_setCell (grown_setCell (grown_setCell (grown_refl _ _) _ _) _ _) _ _) hm2 y_6, grown_cell (b := wa.heap.size) (grown_setCell (grown_setCell (grown_setCell (grown_refl _ _) _ _) _ _) _ _) hm2 y_7, grown_cell (b := wa.heap.size) (grown_setCell (grown_setCell (grown_setCell (grown_refl _ _) _ _) _ _) _ _) hm2 y_8⟩))
        refine wpAnyH_take (i := 8) (v := ?_) rfl (by kernel_rfl) (by kernel_rfl) (by kernel_rfl) (fun _ _ _ h => h) (Or.inl ⟨by rfl, ?_⟩) (by assumption) ?_
        rotate_left
        · intro w hSw; (try dsimp only at hSw); go_simp; (try with_reducible rfl)
        (try go_simp)
        refine wpAnyH_take (i := 9) (v := ?_) rfl (by kernel_rfl) (by kernel_rfl) (by kernel_rfl) (fun _ _ _ h => h) (Or.inl ⟨by rfl, ?_⟩) (by assumption) ?_
        rotate_left
        · intro w hSw; (try dsimp only at hSw); go_simp; (try with_reducible rfl)
        (try go_simp)
        refine wpAnyH_take (i := 10) (v := ?_) rfl (by kernel_rfl) (by kernel_rfl) (by kernel_rfl) (fun _ _ _ h => h) (Or.inl ⟨by rfl, ?_⟩) (by assumption) ?_
        rotate_left
        · intro w hSw; (try dsimp only at hSw); go_simp; (try with_reducible rfl)
        (try go_simp)
        refine wpAnyH_ready (rs := [11]) (by kernel_rfl) (by simp) ?_
        refine AllReadyH.cons rfl (fun Kc hKc => ?_) AllReadyH.nil
        go_simp
        refine hKc.out _ _ ?_ (fun hHeld => ?_) <;> clear hKc Kc
        · (first | (with_reducible exact ⟨D0.cell ir0_23, D0.cell ir1_23, D0.cell ir2_23, D0.cell ia0_23, D0.cell ia1_23, D0.cell ia2_23, D0.cell ib0_23, D0.cell ib1_23, D0.cell ib2_23⟩) | (with_reducible exact ⟨(((Ext.refl w23).alloc _).drew).cell ir0_23, (((Ext.refl w23).alloc _).drew).cell ir1_23, (((Ext.refl w23).alloc _).drew).cell ir2_23, (((Ext.refl w23).alloc _).drew).cell ia0_23, (((Ext.refl w23).alloc _).drew).cell ia1_23, (((Ext.refl w23).alloc _).drew).cell ia2_23, (((Ext.refl w23).alloc _).drew).cell ib0_23, (((Ext.refl w23).alloc _).drew).cell ib1_23, (((Ext.refl w23).alloc _).drew).cell ib2_23⟩) | (with_reducible exact ⟨x_0, x_1, x_2, x_3, x_4, x_5, x_6, x_7, x_8⟩) | (with_reducible exact ⟨(Ea.alloc _).cell ir0_23, (Ea.alloc _).cell ir1_23, (Ea.alloc _).cell ir2_23, (Ea.alloc _).cell ia0_23, (Ea.alloc _).cell ia1_23, (Ea.alloc _).cell ia2_23, (Ea.alloc _).cell ib0_23, (Ea.alloc _).cell ib1_23, (Ea.alloc _).cell ib2_23⟩) | (with_reducible exact ⟨y_0, y_1, y_2, y_3, y_4, y_5, y_6, y_7, y_8⟩) | (with_reducible exact ⟨(Eb.alloc _).cell ir0_23, (Eb.alloc _).cell ir1_23, (Eb.alloc _).cell ir2_23, (Eb.alloc _).cell ia0_23, (Eb.alloc _).cell ia1_23, (Eb.alloc _).cell ia2_23, (Eb.alloc _).cell ib0_23, (Eb.alloc _).cell ib1_23, (Eb.alloc _).cell ib2_23⟩) | (with_reducible exact ⟨grown_cell (b := w23.heap.size) (grown_setCell (grown_setCell (grown_setCell (grown_refl _ _) _ _) _ _) _ _) hn0 y_0, grown_cell (b := w23.heap.size) (grown_setCell (grown_setCell (grown_setCell (grown_refl _ _) _ _) _ _) _ _) hn0 y_1, grown_cell (b := w23.heap.size) (grown_setCell (grown_setCell (grown_setCell (grown_refl _ _) _ _) _ _) _ _) hn0 y_2, grown_cell (b := w23.heap.size) (grown_setCell (grown_setCell (grown_setCell (grown_refl _ _) _ _) _ _) _ _) hn1 y_3, grown_cell (b := w23.heap.size) (grown_setCell (grown_setCell (grown_setCell (grown_refl _ _) _ _) _ _) _ _) hn1 y_4, grown_cell (b := w23.heap.size) (grown_setCell (grown_setCell (grown_setCell (grown_refl _ _) _ _) _ _) _ _) hn1 y_5, grown_cell (b := w23.heap.size) (grown_setCell (grown_setCell (grown_setCell (grown_refl _ _) _ _) _ _) _ _) hn2 y_6, grown_cell (b := w23.heap.size) (grown_setCell (grown_setCell (grown_setCell (grown_refl _ _) _ _) _ _) _ _) hn2 y_7, grown_cell (b := w23.heap.size) (grown_setCell (grown_setCell (grown_setCell (grown_refl _ _) _ _) _ _) _ _) hn2 y_8⟩) | (with_reducible exact ⟨grown_cell (b := wa.heap.size) (grown_setCell (grown_setCell (grown_setCell (grown_refl _ _) _ _) _ _) _ _) hm0 y_0, grown_cell (b := wa.heap.size) (grown_setCell (grown_setCell (grown_setCell (grown_refl _ _) _ _) _ _) _ _) hm0 y_1, grown_cell (b := wa.heap.size) (grown_setCell (grown_setCell (grown_setCell (grown_refl _ _) _ _) _ _) _ _) hm0 y_2, grown_cell (b := wa.heap.size) (grown_setCell (grown_setCell (grown_setCell (grown_refl _ _) _ _) _ _) _ _) hm1 y_3, grown_cell (b := wa.heap.size) (grown_setCell (grown_setCell (grown_setCell (grown_refl _ _) _ _) _ _) _ _) hm1 y_4, grown_cell (b := wa.heap.size) (grown_setCell (grown_setCell (grown_setCell (grown_refl _ _) _ _) _ _) _ _) hm1 y_5, grown_cell (b := wa.heap.size) (grown_setCell (grown_setCell (grown_setCell (grown_refl _ _) _ _) _ _) _ _) hm2 y_6, grown_cell (b := wa.heap.size) (grown_setCell (grown_setCell (grown_setCell (grown_refl _ _) _ _) _ _) _ _) hm2 y_7, grown_cell (b := wa.heap.size) (grown_setCell (grown_setCell (grown_setCell (grown_refl _ _) _ _) _ _) _ _) hm2 y_8⟩))
        refine wpAnyH_ready (rs := [12]) (by kernel_rfl) (by simp) ?_
        refine AllReadyH.cons rfl (fun Kc hKc => ?_) AllReadyH.nil
        go_simp
        refine hKc.out _ _ ?_ (fun hHeld => ?_) <;> clear hKc Kc
        · (first | (with_reducible exact ⟨D0.cell ir0_23, D0.cell ir1_23, D0.cell ir2_23, D0.cell ia0_23, D0.cell ia1_23, D0.cell ia2_23, D0.cell ib0_23, D0.cell ib1_23, D0.cell ib2_23⟩) | (with_reducible exact ⟨(((Ext.refl w23).alloc _).drew).cell ir0_23, (((Ext.refl w23).alloc _).drew).cell ir1_23, (((Ext.refl w23).alloc _).drew).cell ir2_23, (((Ext.refl w23).alloc _).drew).cell ia0_23, (((Ext.refl w23).alloc _).drew).cell ia1_23, (((Ext.refl w23).alloc _).drew).cell ia2_23, (((Ext.refl w23).alloc _).drew).cell ib0_23, (((Ext.refl w23).alloc _).drew).cell ib1_23, (((Ext.refl w23).alloc _).drew).cell ib2_23⟩) | (with_reducible exact ⟨x_0, x_1, x_2, x_3, x_4, x_5, x_6, x_7, x_8⟩) | (with_reducible exact ⟨(Ea.alloc _).cell ir0_23, (Ea.alloc _).cell ir1_23, (Ea.alloc _).cell ir2_23, (Ea.alloc _).cell ia0_23, (Ea.alloc _).cell ia1_23, (Ea.alloc _).cell ia2_23, (Ea.alloc _).cell ib0_23, (Ea.alloc _).cell ib1_23, (Ea.alloc _).cell ib2_23⟩) | (with_reducible exact ⟨y_0, y_1, y_2, y_3, y_4, y_5, y_6, y_7, y_8⟩) | (with_reducible exact ⟨(Eb.alloc _).cell ir0_23, (Eb.alloc _).cell ir1_23, (Eb.alloc _).cell ir2_23, (Eb.alloc _).cell ia0_23, (Eb.alloc _).cell ia1_23, (Eb.alloc _).cell ia2_23, (Eb.alloc _).cell ib0_23, (Eb.alloc _).cell ib1_23, (Eb.alloc _).cell ib2_23⟩) | (with_reducible exact ⟨grown_cell (b := w23.heap.size) (grown_setCell (grown_setCell (grown_setCell (grown_refl _ _) _ _) _ _) _ _) hn0 y_0, grown_cell (b := w23.heap.size) (grown_setCell (grown_setCell (grown_setCell (grown_refl _ _) _ _) _ _) _ _) hn0 y_1, grown_cell (b := w23.heap.size) (grown_setCell (grown_setCell (grown_setCell (grown_refl _ _) _ _) _ _) _ _) hn0 y_2, grown_cell (b := w23.heap.size) (grown_setCell (grown_setCell (grown_setCell (grown_refl _ _) _ _) _ _) _ _) hn1 y_3, grown_cell (b := w23.heap.size) (grown_setCell (grown_setCell (grown_setCell (grown_refl _ _) _ _) _ _) _ _) hn1 y_4, grown_cell (b := w23.heap.size) (grown_setCell (grown_setCell (grown_setCell (grown_refl _ _) _ _) _ _) _ _) hn1 y_5, grown_cell (b := w23.heap.size) (grown_setCell (grown_setCell (grown_setCell (grown_refl _ _) _ _) _ _) _ _) hn2 y_6, grown_cell (b := w23.heap.size) (grown_setCell (grown_setCell (grown_setCell (grown_refl _ _) _ _) _ _) _ _) hn2 y_7, grown_cell (b := w23.heap.size) (grown_setCell (grown_setCell (grown_setCell (grown_refl _ _) _ _) _ _) _ _) hn2 y_8⟩) | (with_reducible exact ⟨grown_cell (b := wa.heap.size) (grown_setCell (grown_setCell (grown_setCell (grown_refl _ _) _ _) _ _) _ _) hm0 y_0, grown_cell (b := wa.heap.size) (grown_setCell (grown_setCell (grown_setCell (grown_refl _ _) _ _) _ _) _ _) hm0 y_1, grown_cell (b := wa.heap.size) (grown_setCell (grown_setCell (grown_setCell (grown_refl _ _) _ _) _ _) _ _) hm0 y_2, grown_cell (b := wa.heap.size) (grown_setCell (grown_setCell (grown_setCell (grown_refl _ _) _ _) _ _) _ _) hm1 y_3, grown_cell (b := wa.heap.size) (grown_setCell (grown_setCell (grown_setCell (grown_refl _ _) _ _) _ _) _ _) hm1 y_4, grown_cell (b := wa.heap.size) (grown_setCell (grown_setCell (grown_setCell (grown_refl _ _) _ _) _ _) _ _) hm1 y_5, grown_cell (b := wa.heap.size) (grown_setCell (grown_setCell (grown_setCell (grown_refl _ _) _ _) _ _) _ _) hm2 y_6, grown_cell (b := wa.heap.size) (grown_setCell (grown_setCell (grown_setCell (grown_refl _ _) _ _) _ _) _ _) hm2 y_7, grown_cell (b := wa.heap.size) (grown_setCell (grown_setCell (grown_setCell (grown_refl _ _) _ _) _ _) _ _) hm2 y_8⟩))
        refine wpAnyH_ready (rs := [13]) (by kernel_rfl) (by simp) ?_
        refine AllReadyH.cons rfl (fun Kc hKc => ?_) AllReadyH.nil
        go_simp
        refine hKc.out _ _ ?_ (fun hHeld => ?_) <;> clear hKc Kc
        · (first | (with_reducible exact ⟨D0.cell ir0_23, D0.cell ir1_23, D0.cell ir2_23, D0.cell ia0_23, D0.cell ia1_23, D0.cell ia2_23, D0.cell ib0_23, D0.cell ib1_23, D0.cell ib2_23⟩) | (with_reducible exact ⟨(((Ext.refl w23).alloc _).drew).cell ir0_23, (((Ext.refl w23).alloc _).drew).cell ir1_23, (((Ext.refl w23).alloc _).drew).cell ir2_23, (((Ext.refl w23).alloc _).drew).cell ia0_23, (((Ext.refl w23).alloc _).drew).cell ia1_23, (((Ext.refl w23).alloc _).drew).cell ia2_23, (((Ext.refl w23).alloc _).drew).cell ib0_23, (((Ext.refl w23).alloc _).drew).cell ib1_23, (((Ext.refl w23).alloc _).drew).cell ib2_23⟩) | (with_reducible exact ⟨x_0, x_1, x_2, x_3, x_4, x_5, x_6, x_7, x_8⟩) | (with_reducible exact ⟨(Ea.alloc _).cell ir0_23, (Ea.alloc _).cell ir1_23, (Ea.alloc _).cell ir2_23, (Ea.alloc _).cell ia0_23, (Ea.alloc _).cell ia1_23, (Ea.alloc _).cell ia2_23, (Ea.alloc _).cell ib0_23, (Ea.alloc _).cell ib1_23, (Ea.alloc _).cell ib2_23⟩) | (with_reducible exact ⟨y_0, y_1, y_2, y_3, y_4, y_5, y_6, y_7, y_8⟩) | (with_reducible exact ⟨(Eb.alloc _).cell ir0_23, (Eb.alloc _).cell ir1_23, (Eb.alloc _).cell ir2_23, (Eb.alloc _).cell ia0_23, (Eb.alloc _).cell ia1_23, (Eb.alloc _).cell ia2_23, (Eb.alloc _).cell ib0_23, (Eb.alloc _).cell ib1_23, (Eb.alloc _).cell ib2_23⟩) | (with_reducible exact ⟨grown_cell (b := w23.heap.size) (grown_setCell (grown_setCell (grown_setCell (grown_refl _ _) _ _) _ _) _ _) hn0 y_0, grown_cell (b := w23.heap.size) (grown_setCell (grown_setCell (grown_setCell (grown_refl _ _) _ _) _ _) _ _) hn0 y_1, grown_cell (b := w23.heap.size) (grown_setCell (grown_setCell (grown_setCell (grown_refl _ _) _ _) _ _) _ _) hn0 y_2, grown_cell (b := w23.heap.size) (grown_setCell (grown_setCell (grown_setCell (grown_refl _ _) _ _) _ _) _ _) hn1 y_3, grown_cell (b := w23.heap.size) (grown_setCell (grown_setCell (grown_setCell (grown_refl _ _) _ _) _ _) _ _) hn1 y_4, grown_cell (b := w23.heap.size) (grown_setCell (grown_setCell (grown_setCell (grown_refl _ _) _ _) _ _) _ _) hn1 y_5, grown_cell (b := w23.heap.size) (grown_setCell (grown_setCell (grown_setCell (grown_refl _ _) _ _) _ _) _ _) hn2 y_6, grown_cell (b := w23.heap.size) (grown_setCell (grown_setCell (grown_setCell (grown_refl _ _) _ _) _ _) _ _) hn2 y_7, grown_cell (b := w23.heap.size) (grown_setCell (grown_setCell (grown_setCell (grown_refl _ _) _ _) _ _) _ _) hn2 y_8⟩) | (with_reducible exact ⟨grown_cell (b := wa.heap.size) (grown_setCell (grown_setCell (grown_setCell (grown_refl _ _) _ _) _ _) _ _) hm0 y_0, grown_cell (b := wa.heap.size) (grown_setCell (grown_setCell (grown_setCell (grown_refl _ _) _ _) _ _) _ _) hm0 y_1, grown_cell (b := wa.heap.size) (grown_setCell (grown_setCell (grown_setCell (grown_refl _ _) _ _) _ _) _ _) hm0 y_2, grown_cell (b := wa.heap.size) (grown_setCell (grown_setCell (grown_setCell (grown_refl _ _) _ _) _ _) _ _) hm1 y_3, grown_cell (b := wa.heap.size) (grown_setCell (grown_setCell (grown_setCell (grown_refl _ _) _ _) _ _) _ _) hm1 y_4, grown_cell (b := wa.heap.size) (grown_setCell (grown_setCell (grown_setCell (grown_refl _ _) _ _) _ _) _ _) hm1 y_5, grown_cell (b := wa.heap.size) (grown_setCell (grown_setCell (grown_setCell (grown_refl _ _) _ _) _ _) _ _) hm2 y_6, grown_cell (b := wa.heap.size) (grown_setCell (grown_setCell (grown_setCell (grown_refl _ _) _ _) _ _) _ _) hm2 y_7, grown_cell (b := wa.heap.size) (grown_setCell (grown_setCell (grown_setCell (grown_refl _ _) _ _) _ _) _ _) hm2 y_8⟩))
        refine wpAnyH_done (by kernel_rfl) ?_ _
        go_wp2_with fail
        go_meet
        exact ⟨wb.heap.size, wwp1, wwn1, wwc1, wwp2, wwn2, wwc2, wwp3, wwn3, wwc3, rfl, rfl, Blk.new wb #[.slice wwp1 wwn1 wwc1, .slice wwp2 wwn2 wwc2, .slice wwp3 wwn3 wwc3] _, Eb.alloc _, o4m.ext ((Ext.refl _).alloc _)⟩
      refine AllReadyH.cons rfl (fun Kc hKc => ?_) AllReadyH.nil
      go_simp
      refine hKc.out _ _ ?_ (fun hHeld => ?_) <;> clear hKc Kc
      · (first | (with_reducible exact ⟨D0.cell ir0_23, D0.cell ir1_23, D0.cell ir2_23, D0.cell ia0_23, D0.cell ia1_23, D0.cell ia2_23, D0.cell ib0_23, D0.cell ib1_23, D0.cell ib2_23⟩) | (with_reducible exact ⟨(((Ext.refl w23).alloc _).drew).cell ir0_23, (((Ext.refl w23).alloc _).drew).cell ir1_23, (((Ext.refl w23).alloc _).drew).cell ir2_23, (((Ext.refl w23).alloc _).drew).cell ia0_23, (((Ext.refl w23).alloc _).drew).cell ia1_23, (((Ext.refl w23).alloc _).drew).cell ia2_23, (((Ext.refl w23).alloc _).drew).cell ib0_23, (((Ext.refl w23).alloc _).drew).cell ib1_23, (((Ext.refl w23).alloc _).drew).cell ib2_23⟩) | (with_reducible exact ⟨x_0, x_1, x_2, x_3, x_4, x_5, x_6, x_7, x_8⟩) | (with_reducible exact ⟨(Ea.alloc _).cell ir0_23, (Ea.alloc _).cell ir1_23, (Ea.alloc _).cell ir2_23, (Ea.alloc _).cell ia0_23, (Ea.alloc _).cell ia1_23, (Ea.alloc _).cell ia2_23, (Ea.alloc _).cell ib0_23, (Ea.alloc _).cell ib1_23, (Ea.alloc _).cell ib2_23⟩) | (with_reducible exact ⟨y_0, y_1, y_2, y_3, y_4, y_5, y_6, y_7, y_8⟩) | (with_reducible exact ⟨(Eb.alloc _).cell ir0_23, (Eb.alloc _).cell ir1_23, (Eb.alloc _).cell ir2_23, (Eb.alloc _).cell ia0_23, (Eb.alloc _).cell ia1_23, (Eb.alloc _).cell ia2_23, (Eb.alloc _).cell ib0_23, (Eb.alloc _).cell ib1_23, (Eb.alloc _).cell ib2_23⟩) | (with_reducible exact ⟨grown_cell (b := w23.heap.size) (grown_setCell (grown_setCell (grown_setCell (grown_refl _ _) _ _) _ _) _ _) hn0 y_0, grown_cell (b := w23.heap.size) (grown_setCell (grown_setCell (grown_setCell (grown_refl _ _) _ _) _ _) _ _) hn0 y_1, grown_cell (b := w23.heap.size) (grown_setCell (grown_setCell (grown_setCell (grown_refl _ _) _ _) _ _) _ _) hn0 y_2, grown_cell (b := w23.heap.size) (grown_setCell (grown_setCell (grown_setCell (grown_refl _ _) _ _) _ _) _ _) hn1 y_3, grown_cell (b := w23.heap.size) (grown_setCell (grown_setCell (grown_setCell (grown_refl _ _) _ _) _ _) _ _) hn1 y_4, grown_cell (b := w23.heap.size) (grown_setCell (grown_setCell (grown_setCell (grown_refl _ _) _ _) _ _) _ _) hn1 y_5, grown_cell (b := w23.heap.size) (grown_setCell (grown_setCell (grown_setCell (grown_refl _ _) _ _) _ _) _ _) hn2 y_6, grown_cell (b := w23.heap.size) (grown_setCell (grown_setCell (grown_setCell (grown_refl _ _) _ _) _ _) _ _) hn2 y_7, grown_cell (b := w23.heap.size) (grown_setCell (grown_setCell (grown_setCell (grown_refl _ _) _ _) _ _) _ _) hn2 y_8⟩) | (with_reducible exact ⟨grown_cell (b := wa.heap.size) (grown_setCell (grown_setCell (grown_setCell (grown_refl _ _) _ _) _ _) _ _) hm0 y_0, grown_cell (b := wa.heap.size) (grown_setCell (grown_setCell (grown_setCell (grown_refl _ _) _ _) _ _) _ _) hm0 y_1, grown_cell (b := wa.heap.size) (grown_setCell (grown_setCell (grown_setCell (grown_refl _ _) _ _) _ _) _ _) hm0 y_2, grown_cell (b := wa.heap.size) (grown_setCell (grown_setCell (grown_setCell (grown_refl _ _) _ _) _ _) _ _) hm1 y_3, grown_cell (b := wa.heap.size) (grown_setCell (grown_setCell (grown_setCell (grown_refl _ _) _ _) _ _) _ _) hm1 y_4, grown_cell (b := wa.heap.size) (grown_setCell (grown_setCell (grown_setCell (grown_refl _ _) _ _) _ _) _ _) hm1 y_5, grown_cell (b := wa.heap.size) (grown_setCell (grown_setCell (grown_setCell (grown_refl _ _) _ _) _ _) _ _) hm2 y_6, grown_cell (b := wa.heap.size) (grown_setCell (grown_setCell (grown_setCell (grown_refl _ _) _ _) _ _) _ _) hm2 y_7, grown_cell (b := wa.heap.size) (grown_setCell (grown_setCell (grown_setCell (grown_refl _ _) _ _) _ _) _ _) hm2 y_8⟩))
      refine wpAnyH_ready (rs := [7]) (by kernel_rfl) (by simp) ?_
      refine AllReadyH.cons rfl (fun Kc hKc => ?_) AllReadyH.nil
      go_simp; go_at_call 14
      (with_reducible refine (contractPair_any HR.out TS.out Tb.out K _ _ _ (wa.alloc (.cells #[.slice none 0 0, .slice none 0 0, .slice none 0 0] 31)) (o3.tens.ext ((Ext.refl wa).alloc _)) ((ob.tens.ext (h6.trans (h7.trans (h8.trans (h9.trans (h10.trans (h11.trans (h12.trans (h13.trans (h14.trans (h15.trans (h16.trans (h17.trans (h18.trans (h19.trans (h20.trans (h21.trans (h22.trans h23)))))))))))))))))).ext (Ea.alloc _)) ((ok.ints.ext (h22.trans h23)).ext (Ea.alloc _))).mono ?_); rintro e4 wb ⟨v4, rfl, oww, hb⟩; obtain ⟨wwp1, wwn1, wwc1, wwp2, wwn2, wwc2, wwp3, wwn3, wwc3, rfl⟩ := oww.shape; have Eb : Ext w23 wb := (Ea.alloc _).trans hb; have y_0 := Eb.cell ir0_23; have y_1 := Eb.cell ir1_23; have y_2 := Eb.cell ir2_23; have y_3 := Eb.cell ia0_23; have y_4 := Eb.cell ia1_23; have y_5 := Eb.cell ia2_23; have y_6 := Eb.cell ib0_23; have y_7 := Eb.cell ib1_23; have y_8 := Eb.cell ib2_23; have hEbs := Eb.size; have o4m := oww.mono (B' := w23.heap.size) (by simp; omega); have Yb : Blk wb wa.heap.size 31 [.slice none 0 0, .slice none 0 0, .slice none 0 0] := (Blk.new wa #[.slice none 0 0, .slice none 0 0, .slice none 0 0] 31).ext hb; have fb_0 := Yb.free 0; have yb_0 := Yb.cell (j := 0) rfl; have fb_1 := Yb.free 1; have yb_1 := Yb.cell (j := 1) rfl; have fb_2 := Yb.free 2; have yb_2 := Yb.cell (j := 2) rfl; have ylb := Yb.lt
      (try go_simp)
      refine hKc.out _ _ ?_ (fun hHeld => ?_) <;> clear hKc Kc
      · (first | (with_reducible exact ⟨D0.cell ir0_23, D0.cell ir1_23, D0.cell ir2_23, D0.cell ia0_23, D0.cell ia1_23, D0.cell ia2_23, D0.cell ib0_23, D0.cell ib1_23, D0.cell ib2_23⟩) | (with_reducible exact ⟨(((Ext.refl w23).alloc _).drew).cell ir0_23, (((Ext.refl w23).alloc _).drew).cell ir1_23, (((Ext.refl w23).alloc _).drew).cell ir2_23, (((Ext.refl w23).alloc _).drew).cell ia0_23, (((Ext.refl w23).alloc _).drew).cell ia1_23, (((Ext.refl w23).alloc _).drew).cell ia2_23, (((Ext.refl w23).alloc _).drew).cell ib0_23, (((Ext.refl w23).alloc _).drew).cell ib1_23, (((Ext.refl w23).alloc _).drew).cell ib2_23⟩) | (with_reducible exact ⟨x_0, x_1, x_2, x_3, x_4, x_5, x_6, x_7, x_8⟩) | (with_reducible exact ⟨(Ea.alloc _).cell ir0_23, (Ea.alloc _).cell ir1_23, (Ea.alloc _).cell ir2_23, (Ea.alloc _).cell ia0_23, (Ea.alloc _).cell ia1_23, (Ea.alloc _).cell ia2_23, (Ea.alloc _).cell ib0_23, (Ea.alloc _).cell ib1_23, (Ea.alloc _).cell ib2_23⟩) | (with_reducible exact ⟨y_0, y_1, y_2, y_3, y_4, y_5, y_6, y_7, y_8⟩) | (with_reducible exact ⟨(Eb.alloc _).cell ir0_23, (Eb.alloc _).cell ir1_23, (Eb.alloc _).cell ir2_23, (Eb.alloc _).cell ia0_23, (Eb.alloc _).cell ia1_23, (Eb.alloc _).cell ia2_23, (Eb.alloc _).cell ib0_23, (Eb.alloc _).cell ib1_23, (Eb.alloc _).cell ib2_23⟩) | (with_reducible exact ⟨grown_cell (b := w23.heap.size) (grown_setCell (grown_setCell (grown_setCell (grown_refl _ _) _ _) _ _) _ _) hn0 y_0, grown_cell (b := w23.heap.size) (grown_setCell (grown_setCell (grown_setCell (grown_refl _ _) _ _) _ _) _ _) hn0 y_1, grown_cell (b := w23.heap.size) (grown_setCell (grown_setCell (grown_setCell (grown_refl _ _) _ _) _ _) _ _) hn0 y_2, grown_cell (b := w23.heap.size) (grown_setCell (grown_setCell (grown_setCell (grown_refl _ _) _ _) _ _) _ _) hn1 y_3, grown_cell (b := w23.heap.size) (grown_setCell (grown_setCell (grown_setCell (grown_refl _ _) _ _) _ _) _ _) hn1 y_4, grown_cell (b := w23.heap.size) (grown_setCell (grown_setCell (grown_setCell (grown_refl _ _) _ _) _ _) _ _) hn1 y_5, grown_cell (b := w23.heap.size) (grown_setCell (grown_setCell (grown_setCell (grown_refl _ _) _ _) _ _) _ _) hn2 y_6, grown_cell (b := w23.heap.size) (grown_setCell (grown_setCell (grown_setCell (grown_refl _ _) _ _) _ _) _ _) hn2 y_7, grown_cell (b := w23.heap.size) (grown_setCell (grown_setCell (grown_setCell (grown_refl _ _) _ _) _ _) _ _) hn2 y_8⟩) | (with_reducible exact ⟨grown_cell (b := wa.heap.size) (grown_setCell (grown_setCell (grown_setCell (grown_refl _ _) _ _) _ _) _ _) hm0 y_0, grown_cell (b := wa.heap.size) (grown_setCell (grown_setCell (grown_setCell (grown_refl _ _) _ _) _ _) _ _) hm0 y_1, grown_cell (b := wa.heap.size) (grown_setCell (grown_setCell (grown_setCell (grown_refl _ _) _ _) _ _) _ _) hm0 y_2, grown_cell (b := wa.heap.size) (grown_setCell (grown_setCell (grown_setCell (grown_refl _ _) _ _) _ _) _ _) hm1 y_3, grown_cell (b := wa.heap.size) (grown_setCell (grown_setCell (grown_setCell (grown_refl _ _) _ _) _ _) _ _) hm1 y_4, grown_cell (b := wa.heap.size) (grown_setCell (grown_setCell (grown_setCell (grown_refl _ _) _ _) _ _) _ _) hm1 y_5, grown_cell (b := wa.heap.size) (grown_setCell (grown_setCell (grown_setCell (grown_refl _ _) _ _) _ _) _ _) hm2 y_6, grown_cell (b := wa.heap.size) (grown_setCell (grown_setCell (grown_setCell (grown_refl _ _) _ _) _ _) _ _) hm2 y_7, grown_cell (b := wa.heap.size) (grown_setCell (grown_setCell (grown_setCell (grown_refl _ _) _ _) _ _) _ _) hm2 y_8⟩))
      refine wpAnyH_take (i := 8) (v := ?_) rfl (by kernel_rfl) (by kernel_rfl) (by kernel_rfl) (fun _ _ _ h => h) (Or.inl ⟨by rfl, ?_⟩) (by assumption) ?_
      rotate_left
      · intro w hSw; (try dsimp only at hSw); go_simp; (try with_reducible rfl)
      (try go_simp)
      refine wpAnyH_take (i := 9) (v := ?_) rfl (by kernel_rfl) (by kernel_rfl) (by kernel_rfl) (fun _ _ _ h => h) (Or.inl ⟨by rfl, ?_⟩) (by assumption) ?_
      rotate_left
      · intro w hSw; (try dsimp only at hSw); go_simp; (try with_reducible rfl)
      (try go_simp)
      refine wpAnyH_take (i := 10) (v := ?_) rfl (by kernel_rfl) (by kernel_rfl) (by kernel_rfl) (fun _ _ _ h => h) (Or.inl ⟨by rfl, ?_⟩) (by assumption) ?_
      rotate_left
      · intro w hSw; (try dsimp only at hSw); go_simp; (try with_reducible rfl)
      (try go_simp)
      refine wpAnyH_ready (rs := [12]) (by kernel_rfl) (by simp) ?_
      refine AllReadyH.cons rfl (fun Kc hKc => ?_) AllReadyH.nil
      go_simp
      refine hKc.out _ _ ?_ (fun hHeld => ?_) <;> clear hKc Kc
      · (first | (with_reducible exact ⟨D0.cell ir0_23, D0.cell ir1_23, D0.cell ir2_23, D0.cell ia0_23, D0.cell ia1_23, D0.cell ia2_23, D0.cell ib0_23, D0.cell ib1_23, D0.cell ib2_23⟩) | (with_reducible exact ⟨(((Ext.refl w23).alloc _).drew).cell ir0_23, (((Ext.refl w23).alloc _).drew).cell ir1_23, (((Ext.refl w23).alloc _).drew).cell ir2_23, (((Ext.refl w23).alloc _).drew).cell ia0_23, (((Ext.refl w23).alloc _).drew).cell ia1_23, (((Ext.refl w23).alloc _).drew).cell ia2_23, (((Ext.refl w23).alloc _).drew).cell ib0_23, (((Ext.refl w23).alloc _).drew).cell ib1_23, (((Ext.refl w23).alloc _).drew).cell ib2_23⟩) | (with_reducible exact ⟨x_0, x_1, x_2, x_3, x_4, x_5, x_6, x_7, x_8⟩) | (with_reducible exact ⟨(Ea.alloc _).cell ir0_23, (Ea.alloc _).cell ir1_23, (Ea.alloc _).cell ir2_23, (Ea.alloc _).cell ia0_23, (Ea.alloc _).cell ia1_23, (Ea.alloc _).cell ia2_23, (Ea.alloc _).cell ib0_23, (Ea.alloc _).cell ib1_23, (Ea.alloc _).cell ib2_23⟩) | (with_reducible exact ⟨y_0, y_1, y_2, y_3, y_4, y_5, y_6, y_7, y_8⟩) | (with_reducible exact ⟨(Eb.alloc _).cell ir0_23, (Eb.alloc _).cell ir1_23, (Eb.alloc _).cell ir2_23, (Eb.alloc _).cell ia0_23, (Eb.alloc _).cell ia1_23, (Eb.alloc _).cell ia2_23, (Eb.alloc _).cell ib0_23, (Eb.alloc _).cell ib1_23, (Eb.alloc _).cell ib2_23⟩) | (with_reducible exact ⟨grown_cell (b := w23.heap.size) (grown_setCell (grown_setCell (grown_setCell (grown_refl _ _) _ _) _ _) _ _) hn0 y_0, grown_cell (b := w23.heap.size) (grown_setCell (grown_setCell (grown_setCell (grown_refl _ _) _ _) _ _) _ _) hn0 y_1, grown_cell (b := w23.heap.size) (grown_setCell (grown_setCell (grown_setCell (grown_refl _ _) _ _) _ _) _ _) hn0 y_2, grown_cell (b := w23.heap.size) (grown_setCell (grown_setCell (grown_setCell (grown_refl _ _) _ _) _ _) _ _) hn1 y_3, grown_cell (b := w23.heap.size) (grown_setCell (grown_setCell (grown_setCell (grown_refl _ _) _ _) _ _) _ _) hn1 y_4, grown_cell (b := w23.heap.size) (grown_setCell (grown_setCell (grown_setCell (grown_refl _ _) _ _) _ _) _ _) hn1 y_5, grown_cell (b := w23.heap.size) (grown_setCell (grown_setCell (grown_setCell (grown_refl _ _) _ _) _ _) _ _) hn2 y_6, grown_cell (b := w23.heap.size) (grown_setCell (grown_setCell (grown_setCell (grown_refl _ _) _ _) _ _) _ _) hn2 y_7, grown_cell (b := w23.heap.size) (grown_setCell (grown_setCell (grown_setCell (grown_refl _ _) _ _) _ _) _ _) hn2 y_8⟩) | (with_reducible exact ⟨grown_cell (b := wa.heap.size) (grown_setCell (grown_setCell (grown_setCell (grown_refl _ _) _ _) _ _) _ _) hm0 y_0, grown_cell (b := wa.heap.size) (grown_setCell (grown_setCell (grown_setCell (grown_refl _ _) _ _) _ _) _ _) hm0 y_1, grown_cell (b := wa.heap.size) (grown_setCell (grown_setCell (grown_setCell (grown_refl _ _) _ _) _ _) _ _) hm0 y_2, grown_cell (b := wa.heap.size) (grown_setCell (grown_setCell (grown_setCell (grown_refl _ _) _ _) _ _) _ _) hm1 y_3, grown_cell (b := wa.heap.size) (grown_setCell (grown_setCell (grown_setCell (grown_refl _ _) _ _) _ _) _ _) hm1 y_4, grown_cell (b := wa.heap.size) (grown_setCell (grown_setCell (grown_setCell (grown_refl _ _) _ _) _ _) _ _) hm1 y_5, grown_cell (b := wa.heap.size) (grown_setCell (grown_setCell (grown_setCell (grown_refl _ _) _ _) _ _) _ _) hm2 y_6, grown_cell (b := wa.heap.size) (grown_setCell (grown_setCell (grown_setCell (grown_refl _ _) _ _) _ _) _ _) hm2 y_7, grown_cell (b := wa.heap.size) (grown_setCell (grown_setCell (grown_setCell (grown_refl _ _) _ _) _ _) _ _) hm2 y_8⟩))
      refine wpAnyH_ready (rs := [13]) (by kernel_rfl) (by simp) ?_
      refine AllReadyH.cons rfl (fun Kc hKc => ?_) AllReadyH.nil
      go_simp
      refine hKc.out _ _ ?_ (fun hHeld => ?_) <;> clear hKc Kc
      · (first | (with_reducible exact ⟨D0.cell ir0_23, D0.cell ir1_23, D0.cell ir2_23, D0.cell ia0_23, D0.cell ia1_23, D0.cell ia2_23, D0.cell ib0_23, D0.cell ib1_23, D0.cell ib2_23⟩) | (with_reducible exact ⟨(((Ext.refl w23).alloc _).drew).cell ir0_23, (((Ext.refl w23).alloc _).drew).cell ir1_23, (((Ext.refl w23).alloc _).drew).cell ir2_23, (((Ext.refl w23).alloc _).drew).cell ia0_23, (((Ext.refl w23).alloc _).drew).cell ia1_23, (((Ext.refl w23).alloc _).drew).cell ia2_23, (((Ext.refl w23).alloc _).drew).cell ib0_23, (((Ext.refl w23).alloc _).drew).cell ib1_23, (((Ext.refl w23).alloc _).drew).cell ib2_23⟩) | (with_reducible exact ⟨x_0, x_1, x_2, x_3, x_4, x_5, x_6, x_7, x_8⟩) | (with_reducible exact ⟨(Ea.alloc _).cell ir0_23, (Ea.alloc _).cell ir1_23, (Ea.alloc _).cell ir2_23, (Ea.alloc _).cell ia0_23, (Ea.alloc _).cell ia1_23, (Ea.alloc _).cell ia2_23, (Ea.alloc _).cell ib0_23, (Ea.alloc _).cell ib1_23, (Ea.alloc _).cell ib2_23⟩) | (with_reducible exact ⟨y_0, y_1, y_2, y_3, y_4, y_5, y_6, y_7, y_8⟩) | (with_reducible exact ⟨(Eb.alloc _).cell ir0_23, (Eb.alloc _).cell ir1_23, (Eb.alloc _).cell ir2_23, (Eb.alloc _).cell ia0_23, (Eb.alloc _).cell ia1_23, (Eb.alloc _).cell ia2_23, (Eb.alloc _).cell ib0_23, (Eb.alloc _).cell ib1_23, (Eb.alloc _).cell ib2_23⟩) | (with_reducible exact ⟨grown_cell (b := w23.heap.size) (grown_setCell (grown_setCell (grown_setCell (grown_refl _ _) _ _) _ _) _ _) hn0 y_0, grown_cell (b := w23.heap.size) (grown_setCell (grown_setCell (grown_setCell (grown_refl _ _) _ _) _ _) _ _) hn0 y_1, grown_cell (b := w23.heap.size) (grown_setCell (grown_setCell (grown_setCell (grown_refl _ _) _ _) _ _) _ _) hn0 y_2, grown_cell (b := w23.heap.size) (grown_setCell (grown_setCell (grown_setCell (grown_refl _ _) _ _) _ _) _ _) hn1 y_3, grown_cell (b := w23.heap.size) (grown_setCell (grown_setCell (grown_setCell (grown_refl _ _) _ _) _ _) _ _) hn1 y_4, grown_cell (b := w23.heap.size) (grown_setCell (grown_setCell (grown_setCell (grown_refl _ _) _ _) _ _) _ _) hn1 y_5, grown_cell (b := w23.heap.size) (grown_setCell (grown_setCell (grown_setCell (grown_refl _ _) _ _) _ _) _ _) hn2 y_6, grown_cell (b := w23.heap.size) (grown_setCell (grown_setCell (grown_setCell (grown_refl _ _) _ _) _ _) _ _) hn2 y_7, grown_cell (b := w23.heap.size) (grown_setCell (grown_setCell (grown_setCell (grown_refl _ _) _ _) _ _) _ _) hn2 y_8⟩) | (with_reducible exact ⟨grown_cell (b := wa.heap.size) (grown_setCell (grown_setCell (grown_setCell (grown_refl _ _) _ _) _ _) _ _) hm0 y_0, grown_cell (b := wa.heap.size) (grown_setCell (grown_setCell (grown_setCell (grown_refl _ _) _ _) _ _) _ _) hm0 y_1, grown_cell (b := wa.heap.size) (grown_setCell (grown_setCell (grown_setCell (grown_refl _ _) _ _) _ _) _ _) hm0 y_2, grown_cell (b := wa.heap.size) (grown_setCell (grown_setCell (grown_setCell (grown_refl _ _) _ _) _ _) _ _) hm1 y_3, grown_cell (b := wa.heap.size) (grown_setCell (grown_setCell (grown_setCell (grown_refl _ _) _ _) _ _) _ _) hm1 y_4, grown_cell (b := wa.heap.size) (grown_setCell (grown_setCell (grown_setCell (grown_refl _ _) _ _) _ _) _ _) hm1 y_5, grown_cell (b := wa.heap.size) (grown_setCell (grown_setCell (grown_setCell (grown_refl _ _) _ _) _ _) _ _) hm2 y_6, grown_cell (b := wa.heap.size) (grown_setCell (grown_setCell (grown_setCell (grown_refl _ _) _ _) _ _) _ _) hm2 y_7, grown_cell (b := wa.heap.size) (grown_setCell (grown_setCell (grown_setCell (grown_refl _ _) _ _) _ _) _ _) hm2 y_8⟩))
      refine wpAnyH_done (by kernel_rfl) ?_ _
      go_wp2_with fail
      go_meet
      exact ⟨wa.heap.size, wwp1, wwn1, wwc1, wwp2, wwn2, wwc2, wwp3, wwn3, wwc3, rfl, rfl, ((Yb.set 0 (.slice wwp1 wwn1 wwc1)).set 1 (.slice wwp2 wwn2 wwc2)).set 2 (.slice wwp3 wwn3 wwc3), ((Eb.setAt hEas _ _).setAt hEas _ _).setAt hEas _ _, (((oww.setBelow (p := ⟨wa.heap.size, 0, none⟩) (by simp) _).setBelow (p := ⟨wa.heap.size, 1, none⟩) (by simp) _).setBelow (p := ⟨wa.heap.size, 2, none⟩) (by simp) _).mono (by simp; omega)⟩
    refine AllReadyH.cons rfl (fun Kc hKc => ?_) AllReadyH.nil
    go_simp
    refine hKc.out _ _ ?_ (fun hHeld => ?_) <;> clear hKc Kc
    · (first | (with_reducible exact ⟨D0.cell ir0_23, D0.cell ir1_23, D0.cell ir2_23, D0.cell ia0_23, D0.cell ia1_23, D0.cell ia2_23, D0.cell ib0_23, D0.cell ib1_23, D0.cell ib2_23⟩) | (with_reducible exact ⟨(((Ext.refl w23).alloc _).drew).cell ir0_23, (((Ext.refl w23).alloc _).drew).cell ir1_23, (((Ext.refl w23).alloc _).drew).cell ir2_23, (((Ext.refl w23).alloc _).drew).cell ia0_23, (((Ext.refl w23).alloc _).drew).cell ia1_23, (((Ext.refl w23).alloc _).drew).cell ia2_23, (((Ext.refl w23).alloc _).drew).cell ib0_23, (((Ext.refl w23).alloc _).drew).cell ib1_23, (((Ext.refl w23).alloc _).drew).cell ib2_23⟩) | (with_reducible exact ⟨x_0, x_1, x_2, x_3, x_4, x_5, x_6, x_7, x_8⟩) | (with_reducible exact ⟨(Ea.alloc _).cell ir0_23, (Ea.alloc _).cell ir1_23, (Ea.alloc _).cell ir2_23, (Ea.alloc _).cell ia0_23, (Ea.alloc _).cell ia1_23, (Ea.alloc _).cell ia2_23, (Ea.alloc _).cell ib0_23, (Ea.alloc _).cell ib1_23, (Ea.alloc _).cell ib2_23⟩) | (with_reducible exact ⟨y_0, y_1, y_2, y_3, y_4, y_5, y_6, y_7, y_8⟩) | (with_reducible exact ⟨(Eb.alloc _).cell ir0_23, (Eb.alloc _).cell ir1_23, (Eb.alloc _).cell ir2_23, (Eb.alloc _).cell ia0_23, (Eb.alloc _).cell ia1_23, (Eb.alloc _).cell ia2_23, (Eb.alloc _).cell ib0_23, (Eb.alloc _).cell ib1_23, (Eb.alloc _).cell ib2_23⟩) | (with_reducible exact ⟨grown_cell (b := w23.heap.size) (grown_setCell (grown_setCell (grown_setCell (grown_refl _ _) _ _) _ _) _ _) hn0 y_0, grown_cell (b := w23.heap.size) (grown_setCell (grown_setCell (grown_setCell (grown_refl _ _) _ _) _ _) _ _) hn0 y_1, grown_cell (b := w23.heap.size) (grown_setCell (grown_setCell (grown_setCell (grown_refl _ _) _ _) _ _) _ _) hn0 y_2, grown_cell (b := w23.heap.size) (grown_setCell (grown_setCell (grown_setCell (grown_refl _ _) _ _) _ _) _ _) hn1 y_3, grown_cell (b := w23.heap.size) (grown_setCell (grown_setCell (grown_setCell (grown_refl _ _) _ _) _ _) _ _) hn1 y_4, grown_cell (b := w23.heap.size) (grown_setCell (grown_setCell (grown_setCell (grown_refl _ _) _ _) _ _) _ _) hn1 y_5, grown_cell (b := w23.heap.size) (grown_setCell (grown_setCell (grown_setCell (grown_refl _ _) _ _) _ _) _ _) hn2 y_6, grown_cell (b := w23.heap.size) (grown_setCell (grown_setCell (grown_setCell (grown_refl _ _) _ _) _ _) _ _) hn2 y_7, grown_cell (b := w23.heap.size) (grown_setCell (grown_setCell (grown_setCell (grown_refl _ _) _ _) _ _) _ _) hn2 y_8⟩) | (with_reducible exact ⟨grown_cell (b := wa.heap.size) (grown_setCell (grown_setCell (grown_setCell (grown_refl _ _) _ _) _ _) _ _) hm0 y_0, grown_cell (b := wa.heap.size) (grown_setCell (grown_setCell (grown_setCell (grown_refl _ _) _ _) _ _) _ _) hm0 y_1, grown_cell (b := wa.heap.size) (grown_setCell (grown_setCell (grown_setCell (grown_refl _ _) _ _) _ _) _ _) hm0 y_2, grown_cell (b := wa.heap.size) (grown_setCell (grown_setCell (grown_setCell (grown_refl _ _) _ _) _ _) _ _) hm1 y_3, grown_cell (b := wa.heap.size) (grown_setCell (grown_setCell (grown_setCell (grown_refl _ _) _ _) _ _) _ _) hm1 y_4, grown_cell (b := wa.heap.size) (grown_setCell (grown_setCell (grown_setCell (grown_refl _ _) _ _) _ _) _ _) hm1 y_5, grown_cell (b := wa.heap.size) (grown_setCell (grown_setCell (grown_setCell (grown_refl _ _) _ _) _ _) _ _) hm2 y_6, grown_cell (b := wa.heap.size) (grown_setCell (grown_setCell (grown_setCell (grown_refl _ _) _ _) _ _) _ _) hm2 y_7, grown_cell (b := wa.heap.size) (grown_setCell (grown_setCell (grown_setCell (grown_refl _ _) _ _) _ _) _ _) hm2 y_8⟩))
    refine wpAnyH_ready (rs := [4]) (by kernel_rfl) (by simp) ?_
    refine AllReadyH.cons rfl (fun Kc hKc => ?_) AllReadyH.nil
    go_simp; go_at_call 22
    (with_reducible refine (sumLabels_any HR.out Ta.out K _ _ (w23.alloc (.cells #[.slice none 0 0, .slice none 0 0, .slice none 0 0] 31)).drew ((oa.tens.ext (h4.trans (h5.trans (h6.trans (h7.trans (h8.trans (h9.trans (h10.trans (h11.trans (h12.trans (h13.trans (h14.trans (h15.trans (h16.trans (h17.trans (h18.trans (h19.trans (h20.trans (h21.trans (h22.trans h23)))))))))))))))))))).ext (((Ext.refl w23).alloc _).drew)) ((ok.ints.ext (h22.trans h23)).ext (((Ext.refl w23).alloc _).drew))).mono ?_); rintro e3 wa ⟨v3, rfl, o3, ha⟩; have Ea : Ext w23 wa := (((Ext.refl w23).alloc _).drew).trans ha; have x_0 := Ea.cell ir0_23; have x_1 := Ea.cell ir1_23; have x_2 := Ea.cell ir2_23; have x_3 := Ea.cell ia0_23; have x_4 := Ea.cell ia1_23; have x_5 := Ea.cell ia2_23; have x_6 := Ea.cell ib0_23; have x_7 := Ea.cell ib1_23; have x_8 := Ea.cell ib2_23; have hEas := Ea.size; obtain ⟨sp1, sn1, sc1, sp2, sn2, sc2, sp3, sn3, sc3, rfl⟩ := o3.shape; have hm0 : w1.heap.size ≠ wa.heap.size := (by omega); have hm1 : w3.heap.size ≠ wa.heap.size := (by omega); have hm2 : w5.heap.size ≠ wa.heap.size := (by omega); have Ya : Blk wa w23.heap.size 31 [.slice none 0 0, .slice none 0 0, .slice none 0 0] := ((Blk.new w23 #[.slice none 0 0, .slice none 0 0, .slice none 0 0] 31).ext ((Ext.refl _).drew)).ext ha; have hlt23 : w23.heap.size < wa.heap.size := Ya.lt
    (try go_simp)
    refine hKc.out _ _ ?_ (fun hHeld => ?_) <;> clear hKc Kc
    · (first | (with_reducible exact ⟨D0.cell ir0_23, D0.cell ir1_23, D0.cell ir2_23, D0.cell ia0_23, D0.cell ia1_23, D0.cell ia2_23, D0.cell ib0_23, D0.cell ib1_23, D0.cell ib2_23⟩) | (with_reducible exact ⟨(((Ext.refl w23).alloc _).drew).cell ir0_23, (((Ext.refl w23).alloc _).drew).cell ir1_23, (((Ext.refl w23).alloc _).drew).cell ir2_23, (((Ext.refl w23).alloc _).drew).cell ia0_23, (((Ext.refl w23).alloc _).drew).cell ia1_23, (((Ext.refl w23).alloc _).drew).cell ia2_23, (((Ext.refl w23).alloc _).drew).cell ib0_23, (((Ext.refl w23).alloc _).drew).cell ib1_23, (((Ext.refl w23).alloc _).drew).cell ib2_23⟩) | (with_reducible exact ⟨x_0, x_1, x_2, x_3, x_4, x_5, x_6, x_7, x_8⟩) | (with_reducible exact ⟨(Ea.alloc _).cell ir0_23, (Ea.alloc _).cell ir1_23, (Ea.alloc _).cell ir2_23, (Ea.alloc _).cell ia0_23, (Ea.alloc _).cell ia1_23, (Ea.alloc _).cell ia2_23, (Ea.alloc _).cell ib0_23, (Ea.alloc _).cell ib1_23, (Ea.alloc _).cell ib2_23⟩) | (with_reducible exact ⟨y_0, y_1, y_2, y_3, y_4, y_5, y_6, y_7, y_8⟩) | (with_reducible exact ⟨(Eb.alloc _).cell ir0_23, (Eb.alloc _).cell ir1_23, (Eb.alloc _).cell ir2_23, (Eb.alloc _).cell ia0_23, (Eb.alloc _).cell ia1_23, (Eb.alloc _).cell ia2_23, (Eb.alloc _).cell ib0_23, (Eb.alloc _).cell ib1_23, (Eb.alloc _).cell ib2_23⟩) | (with_reducible exact ⟨grown_cell (b := w23.heap.size) (grown_setCell (grown_setCell (grown_setCell (grown_refl _ _) _ _) _ _) _ _) hn0 y_0, grown_cell (b := w23.heap.size) (grown_setCell (grown_setCell (grown_setCell (grown_refl _ _) _ _) _ _) _ _) hn0 y_1, grown_cell (b := w23.heap.size) (grown_setCell (grown_setCell (grown_setCell (grown_refl _ _) _ _) _ _) _ _) hn0 y_2, grown_cell (b := w23.heap.size) (grown_setCell (grown_setCell (grown_setCell (grown_refl _ _) _ _) _ _) _ _) hn1 y_3, grown_cell (b := w23.heap.size) (grown_setCell (grown_setCell (grown_setCell (grown_refl _ _) _ _) _ _) _ _) hn1 y_4, grown_cell (b := w23.heap.size) (grown_setCell (grown_setCell (grown_setCell (grown_refl _ _) _ _) _ _) _ _) hn1 y_5, grown_cell (b := w23.heap.size) (grown_setCell (grown_setCell (grown_setCell (grown_refl _ _) _ _) _ _) _ _) hn2 y_6, grown_cell (b := w23.heap.size) (grown_setCell (grown_setCell (grown_setCell (grown_refl _ _) _ _) _ _) _ _) hn2 y_7, grown_cell (b := w23.heap.size) (grown_setCell (grown_setCell (grown_setCell (grown_refl _ _) _ _) _ _) _ _) hn2 y_8⟩) | (with_reducible exact ⟨grown_cell (b := wa.heap.size) (grown_setCell (grown_setCell (grown_setCell (grown_refl _ _) _ _) _ _) _ _) hm0 y_0, grown_cell (b := wa.heap.size) (grown_setCell (grown_setCell (grown_setCell (grown_refl _ _) _ _) _ _) _ _) hm0 y_1, grown_cell (b := wa.heap.size) (grown_setCell (grown_setCell (grown_setCell (grown_refl _ _) _ _) _ _) _ _) hm0 y_2, grown_cell (b := wa.heap.size) (grown_setCell (grown_setCell (grown_setCell (grown_refl _ _) _ _) _ _) _ _) hm1 y_3, grown_cell (b := wa.heap.size) (grown_setCell (grown_setCell (grown_setCell (grown_refl _ _) _ _) _ _) _ _) hm1 y_4, grown_cell (b := wa.heap.size) (grown_setCell (grown_setCell (grown_setCell (grown_refl _ _) _ _) _ _) _ _) hm1 y_5, grown_cell (b := wa.heap.size) (grown_setCell (grown_setCell (grown_setCell (grown_refl _ _) _ _) _ _) _ _) hm2 y_6, grown_cell (b := wa.heap.size) (grown_setCell (grown_setCell (grown_setCell (grown_refl _ _) _ _) _ _) _ _) hm2 y_7, grown_cell (b := wa.heap.size) (grown_setCell (grown_setCell (grown_setCell (grown_refl _ _) _ _) _ _) _ _) hm2 y_8⟩))
    refine wpAnyH_ready (rs := [7]) (by kernel_rfl) (by simp) ?_
    refine AllReadyH.cons rfl (fun Kc hKc => ?_) AllReadyH.nil
    go_simp; go_at_call 14
    (with_reducible refine (contractPair_any HR.out TS.out Tb.out K _ _ _ wa (o3.tens.ext (Ext.refl wa)) ((ob.tens.ext (h6.trans (h7.trans (h8.trans (h9.trans (h10.trans (h11.trans (h12.trans (h13.trans (h14.trans (h15.trans (h16.trans (h17.trans (h18.trans (h19.trans (h20.trans (h21.trans (h22.trans h23)))))))))))))))))).ext Ea) ((ok.ints.ext (h22.trans h23)).ext Ea)).mono ?_); rintro e4 wb ⟨v4, rfl, oww, hb⟩; obtain ⟨wwp1, wwn1, wwc1, wwp2, wwn2, wwc2, wwp3, wwn3, wwc3, rfl⟩ := oww.shape; have Eb : Ext w23 wb := Ea.trans hb; have y_0 := Eb.cell ir0_23; have y_1 := Eb.cell ir1_23; have y_2 := Eb.cell ir2_23; have y_3 := Eb.cell ia0_23; have y_4 := Eb.cell ia1_23; have y_5 := Eb.cell ia2_23; have y_6 := Eb.cell ib0_23; have y_7 := Eb.cell ib1_23; have y_8 := Eb.cell ib2_23; have hEbs := Eb.size; have o4m := oww.mono (B' := w23.heap.size) (by omega); have Yb := Ya.ext hb; have fb_0 := Yb.free 0; have yb_0 := Yb.cell (j := 0) rfl; have fb_1 := Yb.free 1; have yb_1 := Yb.cell (j := 1) rfl; have fb_2 := Yb.free 2; have yb_2 := Yb.cell (j := 2) rfl; have ylb := Yb.lt
    (try go_simp)
    refine hKc.out _ _ ?_ (fun hHeld => ?_) <;> clear hKc Kc
    · (first | (with_reducible exact ⟨D0.cell ir0_23, D0.cell ir1_23, D0.cell ir2_23, D0.cell ia0_23, D0.cell ia1_23, D0.cell ia2_23, D0.cell ib0_23, D0.cell ib1_23, D0.cell ib2_23⟩) | (with_reducible exact ⟨(((Ext.refl w23).alloc _).drew).cell ir0_23, (((Ext.refl w23).alloc _).drew).cell ir1_23, (((Ext.refl w23).alloc _).drew).cell ir2_23, (((Ext.refl w23).alloc _).drew).cell ia0_23, (((Ext.refl w23).alloc _).drew).cell ia1_23, (((Ext.refl w23).alloc _).drew).cell ia2_23, (((Ext.refl w23).alloc _).drew).cell ib0_23, (((Ext.refl w23).alloc _).drew).cell ib1_23, (((Ext.refl w23).alloc _).drew).cell ib2_23⟩) | (with_reducible exact ⟨x_0, x_1, x_2, x_3, x_4, x_5, x_6, x_7, x_8⟩) | (with_reducible exact ⟨(Ea.alloc _).cell ir0_23, (Ea.alloc _).cell ir1_23, (Ea.alloc _).cell ir2_23, (Ea.alloc _).cell ia0_23, (Ea.alloc _).cell ia1_23, (Ea.alloc _).cell ia2_23, (Ea.alloc _).cell ib0_23, (Ea.alloc _).cell ib1_23, (Ea.alloc _).cell ib2_23⟩) | (with_reducible exact ⟨y_0, y_1, y_2, y_3, y_4, y_5, y_6, y_7, y_8⟩) | (with_reducible exact ⟨(Eb.alloc _).cell ir0_23, (Eb.alloc _).cell ir1_23, (Eb.alloc _).cell ir2_23, (Eb.alloc _).cell ia0_23, (Eb.alloc _).cell ia1_23, (Eb.alloc _).cell ia2_23, (Eb.alloc _).cell ib0_23, (Eb.alloc _).cell ib1_23, (Eb.alloc _).cell ib2_23⟩) | (with_reducible exact ⟨grown_cell (b := w23.heap.size) (grown_setCell (grown_setCell (grown_setCell (grown_refl _ _) _ _) _ _) _ _) hn0 y_0, grown_cell (b := w23.heap.size) (grown_setCell (grown_setCell (grown_setCell (grown_refl _ _) _ _) _ _) _ _) hn0 y_1, grown_cell (b := w23.heap.size) (grown_setCell (grown_setCell (grown_setCell (grown_refl _ _) _ _) _ _) _ _) hn0 y_2, grown_cell (b := w23.heap.size) (grown_setCell (grown_setCell (grown_setCell (grown_refl _ _) _ _) _ _) _ _) hn1 y_3, grown_cell (b := w23.heap.size) (grown_setCell (grown_setCell (grown_setCell (grown_refl _ _) _ _) _ _) _ _) hn1 y_4, grown_cell (b := w23.heap.size) (grown_setCell (grown_setCell (grown_setCell (grown_refl _ _) _ _) _ _) _ _) hn1 y_5, grown_cell (b := w23.heap.size) (grown_setCell (grown_setCell (grown_setCell (grown_refl _ _) _ _) _ _) _ _) hn2 y_6, grown_cell (b := w23.heap.size) (grown_setCell (grown_setCell (grown_setCell (grown_refl _ _) _ _) _ _) _ _) hn2 y_7, grown_cell (b := w23.heap.size) (grown_setCell (grown_setCell (grown_setCell (grown_refl _ _) _ _) _ _) _ _) hn2 y_8⟩) | (with_reducible exact ⟨grown_cell (b := wa.heap.size) (grown_setCell (grown_setCell (grown_setCell (grown_refl _ _) _ _) _ _) _ _) hm0 y_0, grown_cell (b := wa.heap.size) (grown_setCell (grown_setCell (grown_setCell (grown_refl _ _) _ _) _ _) _ _) hm0 y_1, grown_cell (b := wa.heap.size) (grown_setCell (grown_setCell (grown_setCell (grown_refl _ _) _ _) _ _) _ _) hm0 y_2, grown_cell (b := wa.heap.size) (grown_setCell (grown_setCell (grown_setCell (grown_refl _ _) _ _) _ _) _ _) hm1 y_3, grown_cell (b := wa.heap.size) (grown_setCell (grown_setCell (grown_setCell (grown_refl _ _) _ _) _ _) _ _) hm1 y_4, grown_cell (b := wa.heap.size) (grown_setCell (grown_setCell (grown_setCell (grown_refl _ _) _ _) _ _) _ _) hm1 y_5, grown_cell (b := wa.heap.size) (grown_setCell (grown_setCell (grown_setCell (grown_refl _ _) _ _) _ _) _ _) hm2 y_6, grown_cell (b := wa.heap.size) (grown_setCell (grown_setCell (grown_setCell (grown_refl _ _) _ _) _ _) _ _) hm2 y_7, grown_cell (b := wa.heap.size) (grown_setCell (grown_setCell (grown_setCell (grown_refl _ _) _ _) _ _) _ _) hm2 y_8⟩))
    refine wpAnyH_take (i := 8) (v := ?_) rfl (by kernel_rfl) (by kernel_rfl) (by kernel_rfl) (fun _ _ _ h => h) (Or.inl ⟨by rfl, ?_⟩) (by assumption) ?_
    rotate_left
    · intro w hSw; (try dsimp only at hSw); go_simp; (try with_reducible rfl)
    (try go_simp)
    refine wpAnyH_take (i := 9) (v := ?_) rfl (by kernel_rfl) (by kernel_rfl) (by kernel_rfl) (fun _ _ _ h => h) (Or.inl ⟨by rfl, ?_⟩) (by assumption) ?_
    rotate_left
    · intro w hSw; (try dsimp only at hSw); go_simp; (try with_reducible rfl)
    (try go_simp)
    refine wpAnyH_take (i := 10) (v := ?_) rfl (by kernel_rfl) (by kernel_rfl) (by kernel_rfl) (fun _ _ _ h => h) (Or.inl ⟨by rfl, ?_⟩) (by assumption) ?_
    rotate_left
    · intro w hSw; (try dsimp only at hSw); go_simp; (try with_reducible rfl)
    (try go_simp)
    refine wpAnyH_ready (rs := [12]) (by kernel_rfl) (by simp) ?_
    refine AllReadyH.cons rfl (fun Kc hKc => ?_) AllReadyH.nil
    go_simp
    refine hKc.out _ _ ?_ (fun hHeld => ?_) <;> clear hKc Kc
    · (first | (with_reducible exact ⟨D0.cell ir0_23, D0.cell ir1_23, D0.cell ir2_23, D0.cell ia0_23, D0.cell ia1_23, D0.cell ia2_23, D0.cell ib0_23, D0.cell ib1_23, D0.cell ib2_23⟩) | (with_reducible exact ⟨(((Ext.refl w23).alloc _).drew).cell ir0_23, (((Ext.refl w23).alloc _).drew).cell ir1_23, (((Ext.refl w23).alloc _).drew).cell ir2_23, (((Ext.refl w23).alloc _).drew).cell ia0_23, (((Ext.refl w23).alloc _).drew).cell ia1_23, (((Ext.refl w23).alloc _).drew).cell ia2_23, (((Ext.refl w23).alloc _).drew).cell ib0_23, (((Ext.refl w23).alloc _).drew).cell ib1_23, (((Ext.refl w23).alloc _).drew).cell ib2_23⟩) | (with_reducible exact ⟨x_0, x_1, x_2, x_3, x_4, x_5, x_6, x_7, x_8⟩) | (with_reducible exact ⟨(Ea.alloc _).cell ir0_23, (Ea.alloc _).cell ir1_23, (Ea.alloc _).cell ir2_23, (Ea.alloc _).cell ia0_23, (Ea.alloc _).cell ia1_23, (Ea.alloc _).cell ia2_23, (Ea.alloc _).cell ib0_23, (Ea.alloc _).cell ib1_23, (Ea.alloc _).cell ib2_23⟩) | (with_reducible exact ⟨y_0, y_1, y_2, y_3, y_4, y_5, y_6, y_7, y_8⟩) | (with_reducible exact ⟨(Eb.alloc _).cell ir0_23, (Eb.alloc _).cell ir1_23, (Eb.alloc _).cell ir2_23, (Eb.alloc _).cell ia0_23, (Eb.alloc _).cell ia1_23, (Eb.alloc _).cell ia2_23, (Eb.alloc _).cell ib0_23, (Eb.alloc _).cell ib1_23, (Eb.alloc _).cell ib2_23⟩) | (with_reducible exact ⟨grown_cell (b := w23.heap.size) (grown_setCell (grown_setCell (grown_setCell (grown_refl _ _) _ _) _ _) _ _) hn0 y_0, grown_cell (b := w23.heap.size) (grown_setCell (grown_setCell (grown_setCell (grown_refl _ _) _ _) _ _) _ _) hn0 y_1, grown_cell (b := w23.heap.size) (grown_setCell (grown_setCell (grown_setCell (grown_refl _ _) _ _) _ _) _ _) hn0 y_2, grown_cell (b := w23.heap.size) (grown_setCell (grown_setCell (grown_setCell (grown_refl _ _) _ _) _ _) _ _) hn1 y_3, grown_cell (b := w23.heap.size) (grown_setCell (grown_setCell (grown_setCell (grown_refl _ _) _ _) _ _) _ _) hn1 y_4, grown_cell (b := w23.heap.size) (grown_setCell (grown_setCell (grown_setCell (grown_refl _ _) _ _) _ _) _ _) hn1 y_5, grown_cell (b := w23.heap.size) (grown_setCell (grown_setCell (grown_setCell (grown_refl _ _) _ _) _ _) _ _) hn2 y_6, grown_cell (b := w23.heap.size) (grown_setCell (grown_setCell (grown_setCell (grown_refl _ _) _ _) _ _) _ _) hn2 y_7, grown_cell (b := w23.heap.size) (grown_setCell (grown_setCell (grown_setCell (grown_refl _ _) _ _) _ _) _ _) hn2 y_8⟩) | (with_reducible exact ⟨grown_cell (b := wa.heap.size) (grown_setCell (grown_setCell (grown_setCell (grown_refl _ _) _ _) _ _) _ _) hm0 y_0, grown_cell (b := wa.heap.size) (grown_setCell (grown_setCell (grown_setCell (grown_refl _ _) _ _) _ _) _ _) hm0 y_1, grown_cell (b := wa.heap.size) (grown_setCell (grown_setCell (grown_setCell (grown_refl _ _) _ _) _ _) _ _) hm0 y_2, grown_cell (b := wa.heap.size) (grown_setCell (grown_setCell (grown_setCell (grown_refl _ _) _ _) _ _) _ _) hm1 y_3, grown_cell (b := wa.heap.size) (grown_setCell (grown_setCell (grown_setCell (grown_refl _ _) _ _) _ _) _ _) hm1 y_4, grown_cell (b := wa.heap.size) (grown_setCell (grown_setCell (grown_setCell (grown_refl _ _) _ _) _ _) _ _) hm1 y_5, grown_cell (b := wa.heap.size) (grown_setCell (grown_setCell (grown_setCell (grown_refl _ _) _ _) _ _) _ _) hm2 y_6, grown_cell (b := wa.heap.size) (grown_setCell (grown_setCell (grown_setCell (grown_refl _ _) _ _) _ _) _ _) hm2 y_7, grown_cell (b := wa.heap.size) (grown_setCell (grown_setCell (grown_setCell (grown_refl _ _) _ _) _ _) _ _) hm2 y_8⟩))
    refine wpAnyH_ready (rs := [13]) (by kernel_rfl) (by simp) ?_
    refine AllReadyH.cons rfl (fun Kc hKc => ?_) AllReadyH.nil
    go_simp
    refine hKc.out _ _ ?_ (fun hHeld => ?_) <;> clear hKc Kc
    · (first | (with_reducible exact ⟨D0.cell ir0_23, D0.cell ir1_23, D0.cell ir2_23, D0.cell ia0_23, D0.cell ia1_23, D0.cell ia2_23, D0.cell ib0_23, D0.cell ib1_23, D0.cell ib2_23⟩) | (with_reducible exact ⟨(((Ext.refl w23).alloc _).drew).cell ir0_23, (((Ext.refl w23).alloc _).drew).cell ir1_23, (((Ext.refl w23).alloc _).drew).cell ir2_23, (((Ext.refl w23).alloc _).drew).cell ia0_23, (((Ext.refl w23).alloc _).drew).cell ia1_23, (((Ext.refl w23).alloc _).drew).cell ia2_23, (((Ext.refl w23).alloc _).drew).cell ib0_23, (((Ext.refl w23).alloc _).drew).cell ib1_23, (((Ext.refl w23).alloc _).drew).cell ib2_23⟩) | (with_reducible exact ⟨x_0, x_1, x_2, x_3, x_4, x_5, x_6, x_7, x_8⟩) | (with_reducible exact ⟨(Ea.alloc _).cell ir0_23, (Ea.alloc _).cell ir1_23, (Ea.alloc _).cell ir2_23, (Ea.alloc _).cell ia0_23, (Ea.alloc _).cell ia1_23, (Ea.alloc _).cell ia2_23, (Ea.alloc _).cell ib0_23, (Ea.alloc _).cell ib1_23, (Ea.alloc _).cell ib2_23⟩) | (with_reducible exact ⟨y_0, y_1, y_2, y_3, y_4, y_5, y_6, y_7, y_8⟩) | (with_reducible exact ⟨(Eb.alloc _).cell ir0_23, (Eb.alloc _).cell ir1_23, (Eb.alloc _).cell ir2_23, (Eb.alloc _).cell ia0_23, (Eb.alloc _).cell ia1_23, (Eb.alloc _).cell ia2_23, (Eb.alloc _).cell ib0_23, (Eb.alloc _).cell ib1_23, (Eb.alloc _).cell ib2_23⟩) | (with_reducible exact ⟨grown_cell (b := w23.heap.size) (grown_setCell (grown_setCell (grown_setCell (grown_refl _ _) _ _) _ _) _ _) hn0 y_0, grown_cell (b := w23.heap.size) (grown_setCell (grown_setCell (grown_setCell (grown_refl _ _) _ _) _ _) _ _) hn0 y_1, grown_cell (b := w23.heap.size) (grown_setCell (grown_setCell (grown_setCell (grown_refl _ _) _ _) _ _) _ _) hn0 y_2, grown_cell (b := w23.heap.size) (grown_setCell (grown_setCell (grown_setCell (grown_refl _ _) _ _) _ _) _ _) hn1 y_3, grown_cell (b := w23.heap.size) (grown_setCell (grown_setCell (grown_setCell (grown_refl _ _) _ _) _ _) _ _) hn1 y_4, grown_cell (b := w23.heap.size) (grown_setCell (grown_setCell (grown_setCell (grown_refl _ _) _ _) _ _) _ _) hn1 y_5, grown_cell (b := w23.heap.size) (grown_setCell (grown_setCell (grown_setCell (grown_refl _ _) _ _) _ _) _ _) hn2 y_6, grown_cell (b := w23.heap.size) (grown_setCell (grown_setCell (grown_setCell (grown_refl _ _) _ _) _ _) _ _) hn2 y_7, grown_cell (b := w23.heap.size) (grown_setCell (grown_setCell (grown_setCell (grown_refl _ _) _ _) _ _) _ _) hn2 y_8⟩) | (with_reducible exact ⟨grown_cell (b := wa.heap.size) (grown_setCell (grown_setCell (grown_setCell (grown_refl _ _) _ _) _ _) _ _) hm0 y_0, grown_cell (b := wa.heap.size) (grown_setCell (grown_setCell (grown_setCell (grown_refl _ _) _ _) _ _) _ _) hm0 y_1, grown_cell (b := wa.heap.size) (grown_setCell (grown_setCell (grown_setCell (grown_refl _ _) _ _) _ _) _ _) hm0 y_2, grown_cell (b := wa.heap.size) (grown_setCell (grown_setCell (grown_setCell (grown_refl _ _) _ _) _ _) _ _) hm1 y_3, grown_cell (b := wa.heap.size) (grown_setCell (grown_setCell (grown_setCell (grown_refl _ _) _ _) _ _) _ _) hm1 y_4, grown_cell (b := wa.heap.size) (grown_setCell (grown_setCell (grown_setCell (grown_refl _ _) _ _) _ _) _ _) hm1 y_5, grown_cell (b := wa.heap.size) (grown_setCell (grown_setCell (grown_setCell (grown_refl _ _) _ _) _ _) _ _) hm2 y_6, grown_cell (b := wa.heap.size) (grown_setCell (grown_setCell (grown_setCell (grown_refl _ _) _ _) _ _) _ _) hm2 y_7, grown_cell (b := wa.heap.size) (grown_setCell (grown_setCell (grown_setCell (grown_refl _ _) _ _) _ _) _ _) hm2 y_8⟩))
    refine wpAnyH_done (by kernel_rfl) ?_ _
    go_wp2_with fail
    go_meet
    exact ⟨w23.heap.size, wwp1, wwn1, wwc1, wwp2, wwn2, wwc2, wwp3, wwn3, wwc3, rfl, rfl, ((Yb.set 0 (.slice wwp1 wwn1 wwc1)).set 1 (.slice wwp2 wwn2 wwc2)).set 2 (.slice wwp3 wwn3 wwc3), ((Eb.setAt (Nat.le_refl _) _ _).setAt (Nat.le_refl _) _ _).setAt (Nat.le_refl _) _ _, (((oww.setBelow (p := ⟨w23.heap.size, 0, none⟩) hlt23 _).setBelow (p := ⟨w23.heap.size, 1, none⟩) hlt23 _).setBelow (p := ⟨w23.heap.size, 2, none⟩) hlt23 _).mono (by omega)⟩
  obtain ⟨w24, rfl⟩ : ∃ x, x = wc := ⟨wc, rfl⟩
  obtain ⟨bu24, wwp1, wwn1, wwc1, wwp2, wwn2, wwc2, wwp3, wwn3, wwc3, rfl, rfl, Bww24, h24, oww⟩ := hcut
  clear ir0_23 ir1_23 ir2_23 lr_23 ia0_23 ia1_23 ia2_23 la_23 ib0_23 ib1_23 ib2_23 lb_23 iab0_23 iab1_23 iab2_23 lab_23 iz0_23 iz1_23 iz2_23 lz_23
  have Br24 := (Br23.ext h24)
  clear Br23
  have ir0_24 := Br24.cell (j := 0) rfl
  have ir1_24 := Br24.cell (j := 1) rfl
  have ir2_24 := Br24.cell (j := 2) rfl
  have lr_24 := Br24.lt
  have Ba24 := (Ba23.ext h24)
  clear Ba23
  have ia0_24 := Ba24.cell (j := 0) rfl
  have ia1_24 := Ba24.cell (j := 1) rfl
  have ia2_24 := Ba24.cell (j := 2) rfl
  have la_24 := Ba24.lt
  have Bb24 := (Bb23.ext h24)
  clear Bb23
  have ib0_24 := Bb24.cell (j := 0) rfl
  have ib1_24 := Bb24.cell (j := 1) rfl
  have ib2_24 := Bb24.cell (j := 2) rfl
  have lb_24 := Bb24.lt
  have Bab24 := (Bab23.ext h24)
  clear Bab23
  have iab0_24 := Bab24.cell (j := 0) rfl
  have iab1_24 := Bab24.cell (j := 1) rfl
  have iab2_24 := Bab24.cell (j := 2) rfl
  have lab_24 := Bab24.lt
  have Bz24 := (Bz23.ext h24)
  clear Bz23
  have iz0_24 := Bz24.cell (j := 0) rfl
  have iz1_24 := Bz24.cell (j := 1) rfl
  have iz2_24 := Bz24.cell (j := 2) rfl
  have lz_24 := Bz24.lt
  have Bww24 := Bww24
  have iww0_24 := Bww24.cell (j := 0) rfl
  have iww1_24 := Bww24.cell (j := 1) rfl
  have iww2_24 := Bww24.cell (j := 2) rfl
  have lww_24 := Bww24.lt
  have HE := Lib.hid (early_data HR.out Ta.out Tb.out HKb.out)
  have HL := Lib.hid (late_data HR.out K Ta.out Tb.out)
  go_upto_region 17 with fail
  have h25 : Ext w24 w24.drew := (Ext.refl _).drew
  go_region_held3 (fun w' => w'.cell? ⟨w1.heap.size, 0, none⟩ = some (.int .i64 k) ∧ w'.cell? ⟨w1.heap.size, 1, none⟩ = some (.int .i64 p) ∧ w'.cell? ⟨w1.heap.size, 2, none⟩ = some (.int .i64 n) ∧ w'.cell? ⟨w10.heap.size, 0, none⟩ = some (.slice abp1 abn1 abc1) ∧ w'.cell? ⟨w10.heap.size, 1, none⟩ = some (.slice abp2 abn2 abc2) ∧ w'.cell? ⟨w10.heap.size, 2, none⟩ = some (.slice abp3 abn3 abc3) ∧ w'.cell? ⟨w22.heap.size, 0, none⟩ = some (.slice zp1 zn1 zc1) ∧ w'.cell? ⟨w22.heap.size, 1, none⟩ = some (.slice zp2 zn2 zc2) ∧ w'.cell? ⟨w22.heap.size, 2, none⟩ = some (.slice zp3 zn3 zc3) ∧ w'.cell? ⟨bu24, 0, none⟩ = some (.slice wwp1 wwn1 wwc1) ∧ w'.cell? ⟨bu24, 1, none⟩ = some (.slice wwp2 wwn2 wwc2) ∧ w'.cell? ⟨bu24, 2, none⟩ = some (.slice wwp3 wwn3 wwc3))
    (refine ⟨?_, ?_, ?_, ?_, ?_, ?_, ?_, ?_, ?_, ?_, ?_, ?_⟩ <;> first | (with_reducible assumption) | exact ((Ext.refl _).drew).cell (by with_reducible assumption) | exact ((Ext.refl _).alloc _).cell (by with_reducible assumption) | (simp [*]; done))
    (first | (go_at_call 16; (with_reducible refine (same_same _ _ _ _ _ _ _ _ w24.drew (oz.tens.ext (h23.trans (h24.trans h25))) (oww.tens.ext h25) HE.out.1 (by rw [HE.out.1]) (by rw [HE.out.2])).mono ?_); rintro e26 w26 ⟨rfl, h26⟩; have c26_0 := (h25.trans h26).cell ir0_24; have c26_1 := (h25.trans h26).cell ir1_24; have c26_2 := (h25.trans h26).cell ir2_24; have c26_3 := (h25.trans h26).cell iab0_24; have c26_4 := (h25.trans h26).cell iab1_24; have c26_5 := (h25.trans h26).cell iab2_24; have c26_6 := (h25.trans h26).cell iz0_24; have c26_7 := (h25.trans h26).cell iz1_24; have c26_8 := (h25.trans h26).cell iz2_24; have c26_9 := (h25.trans h26).cell iww0_24; have c26_10 := (h25.trans h26).cell iww1_24; have c26_11 := (h25.trans h26).cell iww2_24) | (go_at_call 22; (with_reducible refine (sumLabels_any HR.out Tab.out K _ _ w26 (oab.tens.ext (h11.trans (h12.trans (h13.trans (h14.trans (h15.trans (h16.trans (h17.trans (h18.trans (h19.trans (h20.trans (h21.trans (h22.trans (h23.trans (h24.trans (h25.trans h26)))))))))))))))) (ok.ints.ext (h22.trans (h23.trans (h24.trans (h25.trans h26)))))).mono ?_); rintro e27 w27 ⟨vq, rfl, oq, h27⟩; obtain ⟨qqp1, qqn1, qqc1, qqp2, qqn2, qqc2, qqp3, qqn3, qqc3, rfl⟩ := oq.shape; have c27_0 := (h25.trans (h26.trans h27)).cell ir0_24; have c27_1 := (h25.trans (h26.trans h27)).cell ir1_24; have c27_2 := (h25.trans (h26.trans h27)).cell ir2_24; have c27_3 := (h25.trans (h26.trans h27)).cell iab0_24; have c27_4 := (h25.trans (h26.trans h27)).cell iab1_24; have c27_5 := (h25.trans (h26.trans h27)).cell iab2_24; have c27_6 := (h25.trans (h26.trans h27)).cell iz0_24; have c27_7 := (h25.trans (h26.trans h27)).cell iz1_24; have c27_8 := (h25.trans (h26.trans h27)).cell iz2_24; have c27_9 := (h25.trans (h26.trans h27)).cell iww0_24; have c27_10 := (h25.trans (h26.trans h27)).cell iww1_24; have c27_11 := (h25.trans (h26.trans h27)).cell iww2_24) | (go_at_call 16; (with_reducible refine (same_same _ _ _ _ _ _ _ _ w27 oq.tens (oz.tens.ext (h23.trans (h24.trans (h25.trans (h26.trans h27))))) HL.out.1 (by rw [HL.out.1]) (by rw [HL.out.2])).mono ?_); rintro e28 w28 ⟨rfl, h28⟩; have c28_0 := (h25.trans (h26.trans (h27.trans h28))).cell ir0_24; have c28_1 := (h25.trans (h26.trans (h27.trans h28))).cell ir1_24; have c28_2 := (h25.trans (h26.trans (h27.trans h28))).cell ir2_24; have c28_3 := (h25.trans (h26.trans (h27.trans h28))).cell iab0_24; have c28_4 := (h25.trans (h26.trans (h27.trans h28))).cell iab1_24; have c28_5 := (h25.trans (h26.trans (h27.trans h28))).cell iab2_24; have c28_6 := (h25.trans (h26.trans (h27.trans h28))).cell iz0_24; have c28_7 := (h25.trans (h26.trans (h27.trans h28))).cell iz1_24; have c28_8 := (h25.trans (h26.trans (h27.trans h28))).cell iz2_24; have c28_9 := (h25.trans (h26.trans (h27.trans h28))).cell iww0_24; have c28_10 := (h25.trans (h26.trans (h27.trans h28))).cell iww1_24; have c28_11 := (h25.trans (h26.trans (h27.trans h28))).cell iww2_24))
  go_wp2
  go_ret
  exact ⟨rfl, (h1.trans (h2.trans (h3.trans (h4.trans (h5.trans (h6.trans (h7.trans (h8.trans (h9.trans (h10.trans (h11.trans (h12.trans (h13.trans (h14.trans (h15.trans (h16.trans (h17.trans (h18.trans (h19.trans (h20.trans (h21.trans (h22.trans (h23.trans (h24.trans (h25.trans (h26.trans (h27.trans h28)))))))))))))))))))))))))))⟩
end Go.Proofs.Ytabeciopggofkaa
