/- alignTensor, AddTensors, MultiplyTensors, ScaleTensor of the program. -/
import Derived.Test.YtpegckmagiaggaaEBase
import Derived.Test.YtpegckmagiaggaaEContrW
import Derived.Test.YtpegckmagiaggaaEG11
import Derived.Test.YtpegckmagiaggaaEG13
namespace Go.Proofs.Ytpegckmagiaggaa
open Go.RowKit
set_option linter.unusedSimpArgs false
set_option linter.unusedVariables false

section
variable {k p n : Int} (hr : ringOk k p n = true)

set_option maxRecDepth 100000 in
set_option maxHeartbeats 4000000 in
theorem alignTensor_any {dm : Int → Int} {U L M : List Int} {xs ys : List (El k p n)} (hta : IsT k p n dm U L xs) (htb : IsT k p n dm U M ys) (hp : L.Perm M) (va vb : Value) (w : World) (ha : TenS w va L (L.map dm) (flat xs)) (hb : TenS w vb M (M.map dm) (flat ys)) :
    Calls Try.prog 123 #[ringV k p n, va, vb] w fun e w' => ∃ u, e = .returned (.tuple #[u, .bool true]) ∧ OwnT w' w.heap.size u L (L.map dm) (flat (permXs hr dm M L ys)) ∧ Ext w w' := by
  have HTA := Lib.hid hta; clear hta
  have HTB := Lib.hid htb; clear htb
  have HP := Lib.hid hp; clear hp
  have HYA := Lib.hid (HTA.out.yes hr)
  have HYB := Lib.hid (HTB.out.yes hr)
  have heq : Hid ((L.map dm == L.map dm) = true) := Lib.hid (by simp)
  have ha0 := ha
  obtain ⟨ap1, an1, ac1, ap2, an2, ac2, ap3, an3, ac3, rfl⟩ := ha.shape
  obtain ⟨_, _, _, hvv, haL, haD, haX⟩ := ha.val
  simp at hvv
  obtain ⟨rfl, rfl, rfl⟩ := hvv
  have hb0 := hb
  obtain ⟨bp1, bn1, bc1, bp2, bn2, bc2, bp3, bn3, bc3, rfl⟩ := hb.shape
  obtain ⟨_, _, _, hvv, hbL, hbD, hbX⟩ := hb.val
  simp at hvv
  obtain ⟨rfl, rfl, rfl⟩ := hvv
  generalize hW1 : ((((w.alloc (.cells #[.int .i64 k, .int .i64 p, .int .i64 n] 24)).alloc (.cells #[.slice ap1 an1 ac1, .slice ap2 an2 ac2, .slice ap3 an3 ac3] 32)).alloc (.cells #[.slice bp1 bn1 bc1, .slice bp2 bn2 bc2, .slice bp3 bn3 bc3] 32)).alloc (.cells #[.slice none 0 0, .slice none 0 0, .slice none 0 0] 32)) = w1
  have h1 : Ext w w1 := by rw [← hW1]; exact (by repeat' (first | (with_reducible exact Ext.refl _) | (with_reducible assumption) | (with_reducible apply Ext.alloc) | (with_reducible apply Ext.drew) | (with_reducible apply Ext.drewN) | (refine Ext.setAt ?_ (by omega) _ _) | (refine Ext.trans ?_ (by assumption))))
  have Br : Blk w1 (w.heap.size) 24 [.int .i64 k, .int .i64 p, .int .i64 n] := by rw [← hW1]; exact ((((Blk.newB (c := #[_, _, _]) (by simp)).alloc _).alloc _).alloc _)
  have Ba : Blk w1 (w.heap.size + 1) 32 [.slice ap1 an1 ac1, .slice ap2 an2 ac2, .slice ap3 an3 ac3] := by rw [← hW1]; exact (((Blk.newB (c := #[_, _, _]) (by simp)).alloc _).alloc _)
  have Bb : Blk w1 (w.heap.size + 2) 32 [.slice bp1 bn1 bc1, .slice bp2 bn2 bc2, .slice bp3 bn3 bc3] := by rw [← hW1]; exact ((Blk.newB (c := #[_, _, _]) (by simp)).alloc _)
  have Bz : Blk w1 (w.heap.size + 3) 32 [.slice none 0 0, .slice none 0 0, .slice none 0 0] := by rw [← hW1]; exact (Blk.newB (c := #[_, _, _]) (by simp))
  have HS1 : Hid (w1.heap.size = w.heap.size + 4) := Lib.hid (by rw [← hW1]; simp)
  have HW := Lib.hid hW1; clear hW1
  go_enter Try.func123, Try.ntmps123
  go_wp2_with fail
  rw [HW.out]
  have ir_0 := Br.cell (j := 0) rfl
  have ir_1 := Br.cell (j := 1) rfl
  have ir_2 := Br.cell (j := 2) rfl
  have ia_0 := Ba.cell (j := 0) rfl
  have ia_1 := Ba.cell (j := 1) rfl
  have ia_2 := Ba.cell (j := 2) rfl
  have ib_0 := Bb.cell (j := 0) rfl
  have ib_1 := Bb.cell (j := 1) rfl
  have ib_2 := Bb.cell (j := 2) rfl
  go_wp2_with fail
  refine (tensorOk_impl k p n _ L _ _ _ (ha0.ext h1)).mono ?_; rintro e2 w2 ⟨rfl, h2⟩; rw [HYA.out]
  clear ir_0 ir_1 ir_2 ia_0 ia_1 ia_2 ib_0 ib_1 ib_2
  have B2r := Br.ext h2
  have B2a := Ba.ext h2
  have B2b := Bb.ext h2
  have B2z := Bz.ext h2
  have j2r_0 := B2r.cell (j := 0) rfl
  have j2r_1 := B2r.cell (j := 1) rfl
  have j2r_2 := B2r.cell (j := 2) rfl
  have j2a_0 := B2a.cell (j := 0) rfl
  have j2a_1 := B2a.cell (j := 1) rfl
  have j2a_2 := B2a.cell (j := 2) rfl
  have j2b_0 := B2b.cell (j := 0) rfl
  have j2b_1 := B2b.cell (j := 1) rfl
  have j2b_2 := B2b.cell (j := 2) rfl
  have l2r := B2r.lt
  have l2a := B2a.lt
  have l2b := B2b.lt
  have l2z := B2z.lt
  go_wp2_with fail
  refine (tensorOk_impl k p n _ M _ _ _ (hb0.ext (h1.trans h2))).mono ?_; rintro e3 w3 ⟨rfl, h3⟩; rw [HYB.out]
  clear j2r_0 j2r_1 j2r_2 j2a_0 j2a_1 j2a_2 j2b_0 j2b_1 j2b_2 l2r l2a l2b l2z
  have B3r := B2r.ext h3
  have B3a := B2a.ext h3
  have B3b := B2b.ext h3
  have B3z := B2z.ext h3
  have j3r_0 := B3r.cell (j := 0) rfl
  have j3r_1 := B3r.cell (j := 1) rfl
  have j3r_2 := B3r.cell (j := 2) rfl
  have j3a_0 := B3a.cell (j := 0) rfl
  have j3a_1 := B3a.cell (j := 1) rfl
  have j3a_2 := B3a.cell (j := 2) rfl
  have j3b_0 := B3b.cell (j := 0) rfl
  have j3b_1 := B3b.cell (j := 1) rfl
  have j3b_2 := B3b.cell (j := 2) rfl
  have l3r := B3r.lt
  have l3a := B3a.lt
  have l3b := B3b.lt
  have l3z := B3z.lt
  have E3 : Ext w w3 := (h1.trans h2).trans h3
  go_wp2_with fail
  refine (sameLabels_yes _ _ L M _ (haL.ext E3) (hbL.ext E3) HP.out (HP.out.nodup_iff.1 HTA.out.sub.nodup)).mono ?_; rintro e4 w4 ⟨rfl, rfl⟩
  go_wp2_with fail
  refine (rawPermute_any hr HTB.out HP.out.symm _ _ _ (hb0.ext E3) (haL.ext E3)).mono ?_; rintro e4 w4 ⟨v4, rfl, o4, h4⟩
  obtain ⟨up1, un1, uc1, up2, un2, uc2, up3, un3, uc3, rfl⟩ := o4.shape
  have o40 := o4
  obtain ⟨_, _, _, hvv, ocL, ocD, ocX, dc1, dc2⟩ := o4.val
  simp at hvv
  obtain ⟨rfl, rfl, rfl⟩ := hvv
  clear j3r_0 j3r_1 j3r_2 j3a_0 j3a_1 j3a_2 j3b_0 j3b_1 j3b_2 l3r l3a l3b l3z
  have B4r := B3r.ext h4
  have B4a := B3a.ext h4
  have B4z := B3z.ext h4
  have j4r_0 := B4r.cell (j := 0) rfl
  have j4r_1 := B4r.cell (j := 1) rfl
  have j4r_2 := B4r.cell (j := 2) rfl
  have j4a_0 := B4a.cell (j := 0) rfl
  have j4a_1 := B4a.cell (j := 1) rfl
  have j4a_2 := B4a.cell (j := 2) rfl
  have l4r := B4r.lt
  have l4a := B4a.lt
  have l4z := B4z.lt
  go_wp2_with fail
  generalize hW5 : w4.alloc (.cells #[.slice up1 un1 uc1, .slice up2 un2 uc2, .slice up3 un3 uc3] 32) = w5
  have h5 : Ext w4 w5 := by rw [← hW5]; exact (Ext.refl _).alloc _
  have Bc : Blk w5 w4.heap.size 32 [.slice up1 un1 uc1, .slice up2 un2 uc2, .slice up3 un3 uc3] := by rw [← hW5]; exact Blk.new w4 #[_, _, _] 32
  clear hW5
  have E5 : Ext w w5 := (E3.trans h4).trans h5
  refine (equalInts_ext _ _ (L.map dm) (L.map dm) _ (haD.ext E5) (ocD.ints.ext h5)).mono ?_; rintro e6 w6 ⟨rfl, h6⟩; rw [heq.out]
  clear j4r_0 j4r_1 j4r_2 j4a_0 j4a_1 j4a_2 l4r l4a l4z
  have B6z := B4z.ext (h5.trans h6)
  have B6c := Bc.ext h6
  have f0 := B6z.free 0
  have f1 := B6z.free 1
  have f2 := B6z.free 2
  have z0 := B6z.cell (j := 0) rfl
  have z1 := B6z.cell (j := 1) rfl
  have z2 := B6z.cell (j := 2) rfl
  have y0 := B6c.cell (j := 0) rfl
  have y1 := B6c.cell (j := 1) rfl
  have y2 := B6c.cell (j := 2) rfl
  have lz := B6z.lt
  have lc := B6c.lt
  have hs2 := h2.size
  have hs3 := h3.size
  have hs1 := HS1.out
  have hlt3 : w.heap.size + 1 + 1 + 1 < w3.heap.size := by omega
  have hs4 := h4.size
  have hzc : w.heap.size + 1 + 1 + 1 ≠ w4.heap.size := by omega
  have hzc2 : w4.heap.size ≠ w.heap.size + 1 + 1 + 1 := hzc.symm
  go_wp2
  refine bodyPost_ret (v := .tuple #[.agg #[.slice up1 un1 uc1, .slice up2 un2 uc2, .slice up3 un3 uc3], .bool true]) (by simp [results, Try.results123, go_sem, *]) rfl ?_
  exact ⟨_, rfl, ((((o40.ext (h5.trans h6)).setBelow hlt3 _).setBelow hlt3 _).setBelow hlt3 _).mono (by omega), (((E5.trans h6).setAt (by omega) _ _).setAt (by omega) _ _).setAt (by omega) _ _⟩

set_option maxRecDepth 100000 in
set_option maxHeartbeats 8000000 in
theorem addTensors_any {dm : Int → Int} {U L M : List Int} {xs ys : List (El k p n)} (hta : IsT k p n dm U L xs) (htb : IsT k p n dm U M ys) (hp : L.Perm M) (va vb : Value) (w : World) (ha : TenS w va L (L.map dm) (flat xs)) (hb : TenS w vb M (M.map dm) (flat ys)) :
    Calls Try.prog 42 #[ringV k p n, va, vb] w fun e w' => ∃ u, e = .returned (.tuple #[u, .bool true]) ∧ OwnT w' w.heap.size u L (L.map dm) (flat (addXs hr xs (permXs hr dm M L ys))) ∧ Ext w w' := by

  have HTA := Lib.hid hta; clear hta
  have HTB := Lib.hid htb; clear htb
  have HP := Lib.hid hp; clear hp
  have ha0 := ha
  obtain ⟨ap1, an1, ac1, ap2, an2, ac2, ap3, an3, ac3, rfl⟩ := ha.shape
  obtain ⟨_, _, _, hvv, haL, haD, haX⟩ := ha.val
  simp at hvv
  obtain ⟨rfl, rfl, rfl⟩ := hvv
  obtain ⟨_, _, hvv, _, _⟩ := haL.val
  simp at hvv
  obtain ⟨rfl, rfl, rfl⟩ := hvv
  obtain ⟨_, _, hvv, _, _⟩ := haD.val
  simp at hvv
  obtain ⟨rfl, rfl, rfl⟩ := hvv
  obtain ⟨_, _, hvv, _, _⟩ := haX.val
  simp at hvv
  obtain ⟨rfl, rfl, rfl⟩ := hvv
  have hb0 := hb
  obtain ⟨bp1, bn1, bc1, bp2, bn2, bc2, bp3, bn3, bc3, rfl⟩ := hb.shape
  obtain ⟨_, _, _, hvv, hbL, hbD, hbX⟩ := hb.val
  simp at hvv
  obtain ⟨rfl, rfl, rfl⟩ := hvv
  obtain ⟨P, W, hP, hW, hP1, hP2, hW1', hW6, hXl⟩ := (HTA.out.ok hr).nat hr
  have hPW1 : 1 ≤ P * W := Nat.mul_le_mul hP1 hW1'
  have hPW : P * W ≤ 4096 * 6 := Nat.mul_le_mul hP2 hW6
  obtain ⟨bA, oA, cA, hXX, hcA, _, hbA⟩ := haX.open (by omega)
  cases hXX
  have hX9 : (flat xs).length ≤ 1048576 := by omega
  have HWW := Lib.hid hW
  have HBA := Lib.hid hbA
  have hSl : xs.length = P := by have h1 := flat_length HWW.out xs; rw [hXl] at h1; exact (Nat.eq_of_mul_eq_mul_right (by omega) h1).symm
  have HPS : Hid (prodL (L.map dm) = (P : Int)) := Lib.hid hP
  obtain ⟨YS, hYS⟩ : ∃ YS, permXs hr dm M L ys = YS := ⟨_, rfl⟩
  have hYl : YS.length = xs.length := by rw [← hYS, (perm_isT hr HTB.out HP.out.symm).len, HTA.out.len]
  rw [hYS]
  have HYS := Lib.hid hYS; clear hYS
  obtain ⟨ZS, hZS⟩ : ∃ ZS, addXs hr xs YS = ZS := ⟨_, rfl⟩
  have HStep : Hid (∀ j, j < P → ∃ x y : List Int, j * W + W ≤ (flat YS).length ∧ j * W + W ≤ (flat xs).length ∧ getL (flat xs) (j * W) W = x ∧ getL (flat (mixX ZS YS j)) (j * W) W = y ∧ rawOk k p n x = true ∧ rawOk k p n y = true ∧ putL (flat (mixX ZS YS j)) (j * W) (addL k p y x) = flat (mixX ZS YS (j + 1))) := Lib.hid fun j hj => by rw [← hZS]; exact add_step hr HWW.out hYl.symm (by omega)
  have hZl : ZS.length = YS.length := by rw [← hZS]; unfold addXs; rw [List.length_zipWith]; omega
  obtain ⟨N, hN⟩ : ∃ N, (flat YS).length = N := ⟨_, rfl⟩
  have hNX : N = P * W := by rw [← hN, flat_length HWW.out]; rw [hYl, hSl]
  have HZN : Hid (∀ j, (flat (mixX ZS YS j)).length = N) := Lib.hid fun j => by rw [← hN, flat_length HWW.out, flat_length HWW.out, mixX_length hZl]
  have HZ0 : Hid (mixX ZS YS 0 = YS) := Lib.hid (mixX_zero _ _)
  have HZP : Hid (mixX ZS YS P = ZS) := Lib.hid (by have := mixX_all hZl; rwa [hYl, hSl] at this)
  have hN1 : 1 ≤ N := by omega
  have hN9 : N ≤ 1048576 := by omega
  rw [hN] at HStep
  rw [hZS]
  have HN := Lib.hid hN
  have hw := ringOk_wide hr
  have HR := Lib.hid hr
  clear hP hP1 hXl hPW1 hPW hSl hYl hZl hZS hN hNX hW
  have hrk : L.length ≤ 12 := HTA.out.ax.rank
  generalize hW1 : ((((w.alloc (.cells #[.int .i64 k, .int .i64 p, .int .i64 n] 24)).alloc (.cells #[.slice ap1 L.length ac1, .slice ap2 L.length ac2, .slice (some ⟨bA, oA, none⟩) (flat xs).length ac3] 32)).alloc (.cells #[.slice bp1 bn1 bc1, .slice bp2 bn2 bc2, .slice bp3 bn3 bc3] 32)).alloc (.cells #[.slice none 0 0, .slice none 0 0, .slice none 0 0] 32)) = w1
  have h1 : Ext w w1 := by rw [← hW1]; exact (by repeat' (first | (with_reducible exact Ext.refl _) | (with_reducible assumption) | (with_reducible apply Ext.alloc) | (with_reducible apply Ext.drew) | (with_reducible apply Ext.drewN) | (refine Ext.setAt ?_ (by omega) _ _) | (refine Ext.trans ?_ (by assumption))))
  have Br : Blk w1 (w.heap.size) 24 [.int .i64 k, .int .i64 p, .int .i64 n] := by rw [← hW1]; exact ((((Blk.newB (c := #[_, _, _]) (by simp)).alloc _).alloc _).alloc _)
  have Ba : Blk w1 (w.heap.size + 1) 32 [.slice ap1 L.length ac1, .slice ap2 L.length ac2, .slice (some ⟨bA, oA, none⟩) (flat xs).length ac3] := by rw [← hW1]; exact (((Blk.newB (c := #[_, _, _]) (by simp)).alloc _).alloc _)
  have Bb : Blk w1 (w.heap.size + 2) 32 [.slice bp1 bn1 bc1, .slice bp2 bn2 bc2, .slice bp3 bn3 bc3] := by rw [← hW1]; exact ((Blk.newB (c := #[_, _, _]) (by simp)).alloc _)
  have Bz : Blk w1 (w.heap.size + 3) 32 [.slice none 0 0, .slice none 0 0, .slice none 0 0] := by rw [← hW1]; exact (Blk.newB (c := #[_, _, _]) (by simp))
  have HS1 : Hid (w1.heap.size = w.heap.size + 4) := Lib.hid (by rw [← hW1]; simp)
  have HW := Lib.hid hW1; clear hW1
  go_enter Try.func42, Try.ntmps42
  go_wp2_with fail
  rw [HW.out]
  have ir_0 := Br.cell (j := 0) rfl
  have ir_1 := Br.cell (j := 1) rfl
  have ir_2 := Br.cell (j := 2) rfl
  have ia_0 := Ba.cell (j := 0) rfl
  have ia_1 := Ba.cell (j := 1) rfl
  have ia_2 := Ba.cell (j := 2) rfl
  have ib_0 := Bb.cell (j := 0) rfl
  have ib_1 := Bb.cell (j := 1) rfl
  have ib_2 := Bb.cell (j := 2) rfl
  go_wp2_with fail
  refine (alignTensor_any hr HTA.out HTB.out HP.out _ _ _ (ha0.ext h1) (hb0.ext h1)).mono ?_; rintro e2 w2 ⟨v2, rfl, o2, h2⟩
  rw [HYS.out] at o2
  clear ir_0 ir_1 ir_2 ia_0 ia_1 ia_2 ib_0 ib_1 ib_2
  obtain ⟨q1, d1, q2, d2, q3, d3, rfl⟩ := o2.shapeN rfl (List.length_map _) HN.out
  obtain ⟨_, _, _, hvv, ocL, ocD, ocX, dc1, dc2⟩ := o2.val
  simp at hvv
  obtain ⟨rfl, rfl, rfl⟩ := hvv
  obtain ⟨bd, d3', hbd, hXX, hcd, _⟩ := ocX.open (by rw [HN.out]; omega)
  rw [HN.out] at hXX hcd
  cases hXX
  have hbdl := (ocX.block_lt (k := bd) rfl).2
  have B2r := Br.ext h2
  have B2a := Ba.ext h2
  have B2z := Bz.ext h2
  have j2r_0 := B2r.cell (j := 0) rfl
  have j2r_1 := B2r.cell (j := 1) rfl
  have j2r_2 := B2r.cell (j := 2) rfl
  have j2a_0 := B2a.cell (j := 0) rfl
  have j2a_1 := B2a.cell (j := 1) rfl
  have j2a_2 := B2a.cell (j := 2) rfl
  have l2r := B2r.lt
  have l2a := B2a.lt
  have l2z := B2z.lt
  go_wp2_with fail
  generalize hW3 : w2.alloc (.cells #[.slice q1 L.length d1, .slice q2 L.length d2, .slice (some ⟨bd, 0, none⟩) N d3] 32) = w3
  have h3 : Ext w2 w3 := by rw [← hW3]; exact (Ext.refl _).alloc _
  have Bc : Blk w3 w2.heap.size 32 [.slice q1 L.length d1, .slice q2 L.length d2, .slice (some ⟨bd, 0, none⟩) N d3] := by rw [← hW3]; exact Blk.new w2 #[_, _, _] 32
  have hsz3 : w3.heap.size = w2.heap.size + 1 := by rw [← hW3]; simp
  have HSZ3 := Lib.hid hsz3; clear hsz3
  clear hW3
  clear j2r_0 j2r_1 j2r_2 j2a_0 j2a_1 j2a_2 l2r l2a l2z
  have E3 : Ext w1 w3 := h2.trans h3
  have ocL3 := ocL.ext h3
  have ocD3 := ocD.ext h3
  have ocX3 := ocX.ext h3
  clear ocL ocD ocX
  have D1 := Lib.hid dc1; have D2 := Lib.hid dc2; clear dc1 dc2
  have HBD : Hid (w1.heap.size ≤ bd ∧ bd < w2.heap.size) := Lib.hid ⟨hbd, hbdl⟩
  clear hbd hbdl
  have HS3 : Hid (w1.heap.size ≤ w2.heap.size) := Lib.hid (by have := h2.size; omega)
  have HMW : Hid (w1.heap.size ≤ w1.heap.size) := Lib.hid (Nat.le_refl _)
  go_loopw [10] (fun i wr => ∃ (j : Nat) (X : List Int), j ≤ P ∧ i = .int .i64 j ∧ Hid (flat (mixX ZS YS j) = X ∧ X.length = N) ∧ Blk wr w2.heap.size 32 [.slice q1 L.length d1, .slice q2 L.length d2, .slice (some ⟨bd, 0, none⟩) N d3] ∧ OwnI wr w1.heap.size (.slice q1 L.length d1) L ∧ OwnI wr w1.heap.size (.slice q2 L.length d2) (L.map dm) ∧ OwnI wr w1.heap.size (.slice (some ⟨bd, 0, none⟩) N d3) X ∧ Ext w1 wr) (fun i wr => P - (RowKit.intOf i).toNat)
  case atStart => exact ⟨0, flat YS, Nat.zero_le _, rfl, Lib.hid ⟨by rw [HZ0.out], HN.out⟩, Bc, ocL3, ocD3, ocX3, E3⟩
  case round =>
    obtain ⟨j, X, hj, rfl, hX, Bcr, oLr, oDr, oXr, hE⟩ := hrel
    clear ocL3 ocD3 ocX3
    have Gr := Br.ext hE
    have Ga := Ba.ext hE
    have Gz := Bz.ext hE
    have ir_0 := Gr.cell (j := 0) rfl
    have ir_1 := Gr.cell (j := 1) rfl
    have ir_2 := Gr.cell (j := 2) rfl
    have ia_0 := Ga.cell (j := 0) rfl
    have ia_1 := Ga.cell (j := 1) rfl
    have ia_2 := Ga.cell (j := 2) rfl
    have ic_0 := Bcr.cell (j := 0) rfl
    have ic_1 := Bcr.cell (j := 1) rfl
    have ic_2 := Bcr.cell (j := 2) rfl
    have lgr := Gr.lt
    have lga := Ga.lt
    have lgz := Gz.lt
    have lgc := Bcr.lt
    by_cases hlt : j < P
    · go_wp2_with fail
      refine (productOf_any _ (L.map dm) _ oDr.ints HTA.out.ax.dims HTA.out.ax.size).mono ?_; rintro e5 w5' ⟨rfl, rfl⟩; rw [HPS.out]
      obtain ⟨x, y, hf, hfx, hg1, hg2, hxk, hyk, hm⟩ := HStep.out j hlt
      rw [hX.out.1] at hm hg2
      have jW : (j : Int) * (W : Int) = ((j * W : Nat) : Int) := by simp
      have JW := Lib.hid jW; clear jW
      have hj0 : (0 : Int) ≤ (j : Int) := by omega
      have HXK := Lib.hid hxk; clear hxk
      have HYK := Lib.hid hyk
      have HM := Lib.hid hm
      have HG2 := Lib.hid hg2
      have HG1 := Lib.hid hg1; clear hg1
      clear hyk hm hg2
      have HF := Lib.hid hf; have HFX := Lib.hid hfx; clear hf hfx
      have D0 : Ext wr wr.drew := (Ext.refl _).drew
      have hsA := haX.ext (h1.trans hE)
      have hnA : (Value.slice (some ⟨bA, oA + j * W, none⟩) W (ac3 - j * W)).ownBlock ≠ some bd := by have := HBD.out; have := HBA.out; have := HS1.out; have := HMW.out; simp [Value.ownBlock]; omega
      go_upto_region 7 with fail
      go_region_held3 (fun w' => w'.cell? ⟨w.heap.size, 0, none⟩ = some (.int .i64 k) ∧ w'.cell? ⟨w.heap.size, 1, none⟩ = some (.int .i64 p) ∧ w'.cell? ⟨w.heap.size, 2, none⟩ = some (.int .i64 n) ∧ w'.cell? ⟨w.heap.size + 1, 0, none⟩ = some (.slice ap1 L.length ac1) ∧ w'.cell? ⟨w.heap.size + 1, 1, none⟩ = some (.slice ap2 L.length ac2) ∧ w'.cell? ⟨w.heap.size + 1, 2, none⟩ = some (.slice (some ⟨bA, oA, none⟩) (flat xs).length ac3) ∧ w'.cell? ⟨w2.heap.size, 0, none⟩ = some (.slice q1 L.length d1) ∧ w'.cell? ⟨w2.heap.size, 1, none⟩ = some (.slice q2 L.length d2) ∧ w'.cell? ⟨w2.heap.size, 2, none⟩ = some (.slice (some ⟨bd, 0, none⟩) N d3))
        (refine ⟨?_, ?_, ?_, ?_, ?_, ?_, ?_, ?_, ?_⟩ <;> first | (with_reducible assumption) | exact ((Ext.refl _).drew).cell (by with_reducible assumption) | exact grown_cell (grown_setCell (grown_refl _ _) _ _) (by with_reducible assumption) (by with_reducible assumption))
        (first | (go_at_call 110; (with_reducible refine (rawElem_any k p n j (j * W) W HWW.out _ _ _ _ _ _ bd N d3 wr.drew JW.out hj0 hw HF.out hcd hN9).mono ?_); rintro e21 w21 ⟨rfl, h21⟩; have E21 : Ext wr w21 := D0.trans h21; have u21_0 := E21.cell ir_0; have u21_1 := E21.cell ir_1; have u21_2 := E21.cell ir_2; have u21_3 := E21.cell ia_0; have u21_4 := E21.cell ia_1; have u21_5 := E21.cell ia_2; have u21_6 := E21.cell ic_0; have u21_7 := E21.cell ic_1; have u21_8 := E21.cell ic_2) | (go_at_call 110; (with_reducible refine (rawElem_gen k p n j (j * W) W HWW.out _ _ _ _ _ _ bA oA (flat xs).length ac3 w21 JW.out hj0 hw HFX.out hcA hX9).mono ?_); rintro e22 w22 ⟨rfl, h22⟩; have E22 : Ext wr w22 := E21.trans h22; have u22_0 := E22.cell ir_0; have u22_1 := E22.cell ir_1; have u22_2 := E22.cell ir_2; have u22_3 := E22.cell ia_0; have u22_4 := E22.cell ia_1; have u22_5 := E22.cell ia_2; have u22_6 := E22.cell ic_0; have u22_7 := E22.cell ic_1; have u22_8 := E22.cell ic_2; have pA := IntS.part (hsA.ext E22) (W := W) (o := j * W) hW1' HFX.out; rw [HG1.out] at pA) | (go_at_call 101; (with_reducible refine (addInto_own k p n w1.heap.size bd (j * W) W N d3 (d3 - j * W) _ X y x w22 HR.out (oXr.ext E22) hX.out.2 HF.out HG2.out pA hnA HYK.out HXK.out).mono ?_); rintro e23 w23 ⟨rfl, oX23, g23⟩; have E23 : Ext w1 w23 := (hE.trans E22).only g23 (fun q hq => by injection hq with hq; have := HBD.out; have := HMW.out; omega); have Bc23 := (Bcr.ext E22).block (g23.block _ (by have := E22.size; omega) (fun e => by injection e with e; have := HBD.out; omega)); have vr_0 := (Br.ext E23).cell (j := 0) rfl; have vr_1 := (Br.ext E23).cell (j := 1) rfl; have vr_2 := (Br.ext E23).cell (j := 2) rfl; have va_0 := (Ba.ext E23).cell (j := 0) rfl; have va_1 := (Ba.ext E23).cell (j := 1) rfl; have va_2 := (Ba.ext E23).cell (j := 2) rfl; have vc_0 := Bc23.cell (j := 0) rfl; have vc_1 := Bc23.cell (j := 1) rfl; have vc_2 := Bc23.cell (j := 2) rfl))
      rw [HM.out] at oX23
      have nb : ∀ (v : Value) (l : List Int), OwnI wr w1.heap.size v l → (∀ q, v.ownBlock = some q → q ≠ bd) → OwnI w23 w1.heap.size v l := fun v l h hq => (h.ext E22).only g23 (fun z hz e => hq z hz (by injection e with e; exact e.symm))
      have oL23 := nb _ _ oLr (fun q hq e => (D1.out q hq).2 (by rw [e]; rfl))
      have oD23 := nb _ _ oDr (fun q hq e => D2.out q hq (by rw [e]; rfl))
      clear nb oLr oDr oXr
      go_wp2_with fail
      go_roundw
      case rel => exact ⟨j + 1, _, by omega, by go_num, Lib.hid ⟨rfl, HZN.out _⟩, Bc23, oL23, oD23, oX23, E23⟩
      case measure => simp [RowKit.intOf]; omega
    · have : j = P := by omega
      subst this
      have hXz := hX.out.1
      rw [HZP.out] at hXz
      subst hXz
      go_wp2_with fail
      refine (productOf_any _ (L.map dm) _ oDr.ints HTA.out.ax.dims HTA.out.ax.size).mono ?_; rintro e5 w5' ⟨rfl, rfl⟩; rw [HPS.out]
      have HOL := Lib.hid oLr; have HOD := Lib.hid oDr; have HOX := Lib.hid oXr; clear oLr oDr oXr
      have f0 := Gz.free 0
      have f1 := Gz.free 1
      have f2 := Gz.free 2
      have z0 := Gz.cell (j := 0) rfl
      have z1 := Gz.cell (j := 1) rfl
      have z2 := Gz.cell (j := 2) rfl
      have hlt3 : w.heap.size + 1 + 1 + 1 < w1.heap.size := by have := HS1.out; have := HMW.out; omega
      have hzc : w.heap.size + 1 + 1 + 1 ≠ w2.heap.size := by have := HS3.out; omega
      have hzc2 : w2.heap.size ≠ w.heap.size + 1 + 1 + 1 := hzc.symm
      go_upto_region 8 with fail
      repeat go_step
      refine bodyPost_ret (v := .tuple #[.agg #[.slice q1 L.length d1, .slice q2 L.length d2, .slice (some ⟨bd, 0, none⟩) N d3], .bool true]) (by simp [results, Try.results42, go_sem, *]) rfl ?_
      refine ⟨_, rfl, ⟨_, _, _, rfl, ?_, ?_, ?_, D1.out, D2.out⟩, (((h1.trans hE).setAt (by omega) _ _).setAt (by omega) _ _).setAt (by omega) _ _⟩
      · exact (((HOL.out.setBelow hlt3 _).setBelow hlt3 _).setBelow hlt3 _).mono (by omega)
      · exact (((HOD.out.setBelow hlt3 _).setBelow hlt3 _).setBelow hlt3 _).mono (by omega)
      · exact (((HOX.out.setBelow hlt3 _).setBelow hlt3 _).setBelow hlt3 _).mono (by omega)

end
end Go.Proofs.Ytpegckmagiaggaa
