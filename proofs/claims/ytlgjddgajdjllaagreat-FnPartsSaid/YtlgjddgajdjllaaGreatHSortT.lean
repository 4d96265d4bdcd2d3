/- sortedInts, SortTensor, SameTensor of the program. -/
import Derived.Test.YtlgjddgajdjllaaGreatHG11
import Derived.Test.YtlgjddgajdjllaaGreatHSortW
set_option linter.unusedSimpArgs false
set_option linter.unusedVariables false
set_option maxRecDepth 100000
set_option maxHeartbeats 2000000
namespace Go.Proofs.YtlgjddgajdjllaaGreat
open Go.RowKit
theorem sortedInts_any (v : Value) (l : List Int) (w : World) (hl : IntS w v l) (hlen : l.length ≤ 1000) : Calls Tryz.prog 85 #[v] w fun e w' =>
 ∃ u, e = .returned u ∧ OwnI w' w.heap.size u (sortL l) ∧ Ext w w' := by
 obtain ⟨a, c, rfl, hc1, hc2⟩ := hl.val
 go_enter Tryz.func85, Tryz.ntmps85
 go_wp2_with fail
 refine (copyInts_any _ l _ hl (by omega)).mono ?_; rintro e2 w2 ⟨v2, rfl, o2, h2⟩
 rcases Nat.eq_zero_or_pos l.length with h0 | h0
 · obtain rfl := List.eq_nil_of_length_eq_zero h0
   obtain ⟨a2, c2, rfl, _, _⟩ := o2.ints.val
   have HO := Lib.hid o2; clear o2
   go_wp2_with fail
   refine (Tryz.slices_Sort_int_none _ _ _).mono ?_; rintro e3 w3 ⟨rfl, rfl⟩
   go_wp2
   go_ret
   exact ⟨_, rfl, by have := HO.out; simpa [sortL] using this, h2⟩
 obtain ⟨b, c2, hb, rfl, _, _⟩ := o2.open h0
 go_wp2_with fail
 refine (sort_own o2 hlen).mono ?_; rintro e3 w3 ⟨rfl, o3, g3⟩
 go_wp2
 go_ret
 exact ⟨_, rfl, o3, h2.only g3 (fun q hq => by injection hq with hq; omega)⟩
section
variable {k p n : Int} (hr : ringOk k p n = true)
theorem sortTensor_any {dm : Int → Int} {U L : List Int} {xs : List (El k p n)} (ht : IsT k p n dm U L xs) (va : Value) (w : World) (ha : TenS w va L (L.map dm) (flat xs)) :
 Calls Tryz.prog 47 #[ringV k p n, va] w fun e w' => ∃ u, e = .returned u ∧ OwnT w' w.heap.size u (sortL L) ((sortL L).map dm) (flat (permXs hr dm L (sortL L) xs)) ∧ Ext w w' := by
 have HT := Lib.hid ht; clear ht
 have HR := Lib.hid hr
 have hll : L.length ≤ 12 := HT.out.ax.rank
 have HY := Lib.hid (HT.out.yes hr)
 have ha0 := ha
 obtain ⟨ap1, an1, ac1, ap2, an2, ac2, ap3, an3, ac3, rfl⟩ := ha.shape
 obtain ⟨_, _, _, hvv, haL, haD, haX⟩ := ha.val
 simp at hvv
 obtain ⟨rfl, rfl, rfl⟩ := hvv
 generalize hW1 : (((w.alloc (.cells #[.int .i64 k, .int .i64 p, .int .i64 n] 24)).alloc (.cells #[.slice ap1 an1 ac1, .slice ap2 an2 ac2, .slice ap3 an3 ac3] 35)).alloc (.cells #[.slice none 0 0, .slice none 0 0, .slice none 0 0] 35)) = w1
 have h1 : Ext w w1 := by rw [← hW1]; exact xt
 have Br : Blk w1 (w.heap.size) 24 [.int .i64 k, .int .i64 p, .int .i64 n] := by rw [← hW1]; exact (((Blk.newB (c := #[_, _, _]) (by simp)).alloc _).alloc _)
 have Ba : Blk w1 (w.heap.size + 1) 35 [.slice ap1 an1 ac1, .slice ap2 an2 ac2, .slice ap3 an3 ac3] := by rw [← hW1]; exact ((Blk.newB (c := #[_, _, _]) (by simp)).alloc _)
 have Bz : Blk w1 (w.heap.size + 2) 35 [.slice none 0 0, .slice none 0 0, .slice none 0 0] := by rw [← hW1]; exact (Blk.newB (c := #[_, _, _]) (by simp))
 have HS1 : Hid (w1.heap.size = w.heap.size + 3) := Lib.hid (by rw [← hW1]; simp)
 have HW := Lib.hid hW1; clear hW1
 go_enter Tryz.func47, Tryz.ntmps47
 go_wp2_with fail
 rw [HW.out]
 have ir_0 := Br.cell (j := 0) rfl
 have ir_1 := Br.cell (j := 1) rfl
 have ir_2 := Br.cell (j := 2) rfl
 have ia_0 := Ba.cell (j := 0) rfl
 have ia_1 := Ba.cell (j := 1) rfl
 have ia_2 := Ba.cell (j := 2) rfl
 go_wp2_with fail
 refine (tensorOk_impl k p n _ L _ _ _ (ha0.ext h1)).mono ?_; rintro e2 w2 ⟨rfl, h2⟩; rw [HY.out]
 have E2 : Ext w w2 := h1.trans h2
 have Br2 := Br.ext h2
 have Ba2 := Ba.ext h2
 have Bz2 := Bz.ext h2
 have jr_0 := Br2.cell (j := 0) rfl
 have jr_1 := Br2.cell (j := 1) rfl
 have jr_2 := Br2.cell (j := 2) rfl
 have ja_0 := Ba2.cell (j := 0) rfl
 have ja_1 := Ba2.cell (j := 1) rfl
 have ja_2 := Ba2.cell (j := 2) rfl
 have lr := Br2.lt
 have la := Ba2.lt
 have lz := Bz2.lt
 have D0 : Ext w2 w2.drew := (Ext.refl _).drew
 have haL2 := haL.ext (E2.trans D0)
 have ha2 := ha0.ext (E2.trans D0)
 go_upto_region 3 with fail
 go_region_held3 (fun w' => w'.cell? ⟨w.heap.size, 0, none⟩ = some (.int .i64 k) ∧ w'.cell? ⟨w.heap.size, 1, none⟩ = some (.int .i64 p) ∧ w'.cell? ⟨w.heap.size, 2, none⟩ = some (.int .i64 n) ∧ w'.cell? ⟨w.heap.size + 1, 0, none⟩ = some (.slice ap1 an1 ac1) ∧ w'.cell? ⟨w.heap.size + 1, 1, none⟩ = some (.slice ap2 an2 ac2) ∧ w'.cell? ⟨w.heap.size + 1, 2, none⟩ = some (.slice ap3 an3 ac3))
  (refine ⟨?_, ?_, ?_, ?_, ?_, ?_⟩ <;> first | (with_reducible assumption) | exact ((Ext.refl _).drew).cell (by with_reducible assumption) | exact grown_cell (b := w.heap.size + 1 + 1) (grown_setCell (grown_setCell (grown_setCell (grown_refl _ _) _ _) _ _) _ _) (by omega) (by assumption) | exact grown_cell (grown_setCell (grown_refl _ _) _ _) (by with_reducible assumption) (by with_reducible assumption))
  (first | (go_at_call 85; (with_reducible refine (sortedInts_any _ L w2.drew haL2 (by omega)).mono ?_); rintro e3 w3 ⟨v3, rfl, o3, h3⟩; obtain ⟨s3, k3, rfl, _, _⟩ := o3.ints.val; have E3 : Ext w2 w3 := D0.trans h3; have xr_0 := E3.cell jr_0; have xr_1 := E3.cell jr_1; have xr_2 := E3.cell jr_2; have xa_0 := E3.cell ja_0; have xa_1 := E3.cell ja_1; have xa_2 := E3.cell ja_2) | (go_at_call 84; (with_reducible refine (rawPermute_any hr HT.out (sortL_perm L).symm _ _ w3 (ha0.ext (E2.trans E3)) o3.ints).mono ?_); rintro e4 w4 ⟨v4, rfl, o4, h4⟩; obtain ⟨up1, un1, uc1, up2, un2, uc2, up3, un3, uc3, rfl⟩ := o4.shape; have E4 : Ext w2 w4 := E3.trans h4; have yr_0 := E4.cell jr_0; have yr_1 := E4.cell jr_1; have yr_2 := E4.cell jr_2; have ya_0 := E4.cell ja_0; have ya_1 := E4.cell ja_1; have ya_2 := E4.cell ja_2; have Bz4 := Bz2.ext E4; have f0 := Bz4.free 0; have f1 := Bz4.free 1; have f2 := Bz4.free 2; have z0 := Bz4.cell (j := 0) rfl; have z1 := Bz4.cell (j := 1) rfl; have z2 := Bz4.cell (j := 2) rfl; have lz4 := Bz4.lt; have hnr : w.heap.size ≠ w.heap.size + 2 := (by omega); have hna : w.heap.size + 1 ≠ w.heap.size + 2 := (by omega)))
 have hs4 := E3.size
 have hs2 := h2.size
 have hs1 := HS1.out
 have hlt3 : w.heap.size + 1 + 1 < w3.heap.size := by omega
 go_wp2
 refine bodyPost_ret (v := .agg #[.slice up1 un1 uc1, .slice up2 un2 uc2, .slice up3 un3 uc3]) (by simp [results, Tryz.results47, go_sem, *]) rfl ?_
 exact ⟨_, rfl, (((o4.setBelow hlt3 _).setBelow hlt3 _).setBelow hlt3 _).mono (by omega), (((E2.trans E4).setAt (by omega) _ _).setAt (by omega) _ _).setAt (by omega) _ _⟩
theorem sameTensor_yes {dm : Int → Int} {U L M : List Int} {xs ys : List (El k p n)} (hta : IsT k p n dm U L xs) (htb : IsT k p n dm U M ys) (he : sortL L = sortL M) (hx : permXs hr dm L (sortL L) xs = permXs hr dm M (sortL M) ys) (va vb : Value) (w : World)
 (ha : TenS w va L (L.map dm) (flat xs)) (hb : TenS w vb M (M.map dm) (flat ys)) :
 Calls Tryz.prog 16 #[ringV k p n, va, vb] w fun e w' => e = .returned (.bool true) ∧ Ext w w' := by
 have HTA := Lib.hid hta; clear hta
 have HTB := Lib.hid htb; clear htb
 have HYA := Lib.hid (HTA.out.yes hr)
 have HYB := Lib.hid (HTB.out.yes hr)
 have HE := Lib.hid he; have HX := Lib.hid hx
 clear he hx
 have ha0 := ha
 obtain ⟨ap1, an1, ac1, ap2, an2, ac2, ap3, an3, ac3, rfl⟩ := ha.shape
 obtain ⟨_, _, _, hvv, haL, haD, haX⟩ := ha.val
 simp at hvv
 obtain ⟨rfl, rfl, rfl⟩ := hvv
 have hb0 := hb
 obtain ⟨bp1, bn1, bc1, bp2, bn2, bc2, bp3, bn3, bc3, rfl⟩ := hb.shape
 obtain ⟨_, _, _, hvv, hbL, hbD, hbX⟩ := hb.val
 simp at hvv
 obtain ⟨rfl, rfl, rfl⟩ := hvv
 generalize hW1 : (((w.alloc (.cells #[.int .i64 k, .int .i64 p, .int .i64 n] 24)).alloc (.cells #[.slice ap1 an1 ac1, .slice ap2 an2 ac2, .slice ap3 an3 ac3] 35)).alloc (.cells #[.slice bp1 bn1 bc1, .slice bp2 bn2 bc2, .slice bp3 bn3 bc3] 35)) = w1
 have h1 : Ext w w1 := by rw [← hW1]; exact xt
 have Br : Blk w1 (w.heap.size) 24 [.int .i64 k, .int .i64 p, .int .i64 n] := by rw [← hW1]; exact (((Blk.newB (c := #[_, _, _]) (by simp)).alloc _).alloc _)
 have Ba : Blk w1 (w.heap.size + 1) 35 [.slice ap1 an1 ac1, .slice ap2 an2 ac2, .slice ap3 an3 ac3] := by rw [← hW1]; exact ((Blk.newB (c := #[_, _, _]) (by simp)).alloc _)
 have Bb : Blk w1 (w.heap.size + 2) 35 [.slice bp1 bn1 bc1, .slice bp2 bn2 bc2, .slice bp3 bn3 bc3] := by rw [← hW1]; exact (Blk.newB (c := #[_, _, _]) (by simp))
 have HS1 : Hid (w1.heap.size = w.heap.size + 3) := Lib.hid (by rw [← hW1]; simp)
 have HW := Lib.hid hW1; clear hW1
 go_enter Tryz.func16, Tryz.ntmps16
 go_wp2_with fail
 rw [HW.out]
 have ir_0 := Br.cell (j := 0) rfl
 have ir_1 := Br.cell (j := 1) rfl
 have ir_2 := Br.cell (j := 2) rfl
 have ia_0 := Ba.cell (j := 0) rfl
 have ia_1 := Ba.cell (j := 1) rfl
 have ia_2 := Ba.cell (j := 2) rfl
 have ib_0 := Bb.cell (j := 0) rfl
 have ib_1 := Bb.cell (j := 1) rfl
 have ib_2 := Bb.cell (j := 2) rfl
 have D0 : Ext w1 w1.drew := (Ext.refl _).drew
 have ha2 := ha0.ext (h1.trans D0)
 go_upto_region 1 with fail
 go_region_held3 (fun w' => w'.cell? ⟨w.heap.size, 0, none⟩ = some (.int .i64 k) ∧ w'.cell? ⟨w.heap.size, 1, none⟩ = some (.int .i64 p) ∧ w'.cell? ⟨w.heap.size, 2, none⟩ = some (.int .i64 n) ∧ w'.cell? ⟨w.heap.size + 1, 0, none⟩ = some (.slice ap1 an1 ac1) ∧ w'.cell? ⟨w.heap.size + 1, 1, none⟩ = some (.slice ap2 an2 ac2) ∧ w'.cell? ⟨w.heap.size + 1, 2, none⟩ = some (.slice ap3 an3 ac3) ∧ w'.cell? ⟨w.heap.size + 2, 0, none⟩ = some (.slice bp1 bn1 bc1) ∧ w'.cell? ⟨w.heap.size + 2, 1, none⟩ = some (.slice bp2 bn2 bc2) ∧ w'.cell? ⟨w.heap.size + 2, 2, none⟩ = some (.slice bp3 bn3 bc3))
  (refine ⟨?_, ?_, ?_, ?_, ?_, ?_, ?_, ?_, ?_⟩ <;> first | (with_reducible assumption) | exact ((Ext.refl _).drew).cell (by with_reducible assumption) | exact grown_cell (grown_setCell (grown_refl _ _) _ _) (by with_reducible assumption) (by with_reducible assumption))
  (first | (go_at_call 31; (with_reducible refine (tensorOk_impl k p n _ L _ _ w1.drew ha2).mono ?_); rintro e2 w2 ⟨rfl, h2⟩; rw [HYA.out]; have E2 : Ext w1 w2 := D0.trans h2; have x2r_0 := E2.cell ir_0; have x2r_1 := E2.cell ir_1; have x2r_2 := E2.cell ir_2; have x2a_0 := E2.cell ia_0; have x2a_1 := E2.cell ia_1; have x2a_2 := E2.cell ia_2; have x2b_0 := E2.cell ib_0; have x2b_1 := E2.cell ib_1; have x2b_2 := E2.cell ib_2) | (go_at_call 31; (with_reducible refine (tensorOk_impl k p n _ M _ _ w2 (hb0.ext (h1.trans E2))).mono ?_); rintro e3 w3 ⟨rfl, h3⟩; rw [HYB.out]; have E3 : Ext w1 w3 := E2.trans h3; have x3r_0 := E3.cell ir_0; have x3r_1 := E3.cell ir_1; have x3r_2 := E3.cell ir_2; have x3a_0 := E3.cell ia_0; have x3a_1 := E3.cell ia_1; have x3a_2 := E3.cell ia_2; have x3b_0 := E3.cell ib_0; have x3b_1 := E3.cell ib_1; have x3b_2 := E3.cell ib_2) | (go_at_call 47; (with_reducible refine (sortTensor_any hr HTA.out _ w3 (ha0.ext (h1.trans E3))).mono ?_); rintro e4 w4 ⟨v4, rfl, o4, h4⟩; have E4 : Ext w1 w4 := E3.trans h4; have x4r_0 := E4.cell ir_0; have x4r_1 := E4.cell ir_1; have x4r_2 := E4.cell ir_2; have x4a_0 := E4.cell ia_0; have x4a_1 := E4.cell ia_1; have x4a_2 := E4.cell ia_2; have x4b_0 := E4.cell ib_0; have x4b_1 := E4.cell ib_1; have x4b_2 := E4.cell ib_2) | (go_at_call 47; (with_reducible refine (sortTensor_any hr HTB.out _ w4 (hb0.ext (h1.trans E4))).mono ?_); rintro e5 w5 ⟨v5, rfl, o5, h5⟩; have t5 := o5.tens; rw [← HX.out, ← HE.out] at t5; have E5 : Ext w1 w5 := E4.trans h5; have x5r_0 := E5.cell ir_0; have x5r_1 := E5.cell ir_1; have x5r_2 := E5.cell ir_2; have x5a_0 := E5.cell ia_0; have x5a_1 := E5.cell ia_1; have x5a_2 := E5.cell ia_2; have x5b_0 := E5.cell ib_0; have x5b_1 := E5.cell ib_1; have x5b_2 := E5.cell ib_2) | (go_at_call 46; (with_reducible refine (equalTensors_yes _ _ _ _ _ w5 (o4.tens.ext h5) t5).mono ?_); rintro e6 w6 ⟨rfl, h6⟩; have E6 : Ext w1 w6 := E5.trans h6; have x6r_0 := E6.cell ir_0; have x6r_1 := E6.cell ir_1; have x6r_2 := E6.cell ir_2; have x6a_0 := E6.cell ia_0; have x6a_1 := E6.cell ia_1; have x6a_2 := E6.cell ia_2; have x6b_0 := E6.cell ib_0; have x6b_1 := E6.cell ib_1; have x6b_2 := E6.cell ib_2))
 go_wp2
 go_ret
 exact ⟨rfl, h1.trans E6⟩
end
end Go.Proofs.YtlgjddgajdjllaaGreat
