/- alignTensor, AddTensors, MultiplyTensors, ScaleTensor of the program. -/
import Derived.Test.YtpegckmagiaggaaJG14
set_option linter.unusedSimpArgs false
set_option linter.unusedVariables false
namespace Go.Proofs.Ytpegckmagiaggaa
open Go.RowKit
theorem mulInto_part (k p n : Int) (B b o W N cap cap' : Nat) (vx vy : Value) (X x y : List Int) (w : World) (hr : ringOk k p n = true) (hO : OwnI w B (.slice (some ⟨b, 0, none⟩) N cap) X) (hN : X.length = N) (hf : o + W ≤ N) (hvx : IntS w vx x) (hvy : IntS w vy y)
    (hnx : vx.ownBlock ≠ some b) (hny : vy.ownBlock ≠ some b) (hx : rawOk k p n x = true) (hy : rawOk k p n y = true) (hxl : x.length = W) :
    Calls Try.prog 131 #[ringV k p n, .slice (some ⟨b, o, none⟩) W cap', vx, vy] w fun e w' =>
      e = .returned (.tuple #[]) ∧ OwnI w' B (.slice (some ⟨b, 0, none⟩) N cap) (putL X o (mulL k p x y)) ∧ w.grownBy w' (some b) := by
  subst hN
  obtain ⟨rest, hP, rfl, _, hb, hm⟩ := hO.part
  obtain ⟨z, hz⟩ : ∃ z, getL X o W = z := ⟨_, rfl⟩
  have hzl : z.length = W := by rw [← hz]; exact getL_length hf
  subst hzl
  have hPz : Part w b o (ints X ++ rest) z := ⟨hP.blk, by rw [List.length_append, ints_length]; omega, by
    rw [List.drop_append_of_le_length (by rw [ints_length]; omega), List.take_append_of_le_length (by rw [List.length_drop, ints_length]; omega)]
    conv => rhs; rw [← hz]
    unfold getL Proofs.Ytpegckmagiaggaa.ints
    rw [List.map_take, List.map_drop]⟩
  refine (mulInto_any k p n b o cap' _ vx vy z x y w hr hPz hvx hvy hnx hny hxl.symm hx hy).mono ?_
  rintro e w' ⟨rfl, hB, g⟩
  have hl := (rawOk_iff.1 (rawOk_mul hr hx hy)).1
  have hl2 := (rawOk_iff.1 hx).1
  have hal : (mulL k p x y).length = z.length := by omega
  rw [splice_put (by rw [hal]; exact hf)] at hB
  refine ⟨rfl, ⟨.inr ⟨b, rest, hb, ?_, hB, ?_⟩⟩, g⟩
  · rw [putL_length (by rw [hal]; exact hf)]
  · rw [putL_length (by rw [hal]; exact hf)]; exact hm
section
variable {k p n : Int} (hr : ringOk k p n = true)
set_option maxRecDepth 100000 in
set_option maxHeartbeats 8000000 in
theorem scaleTensor_any {dm : Int → Int} {U L : List Int} {xs : List (El k p n)} (hta : IsT k p n dm U L xs) (x : El k p n) (va vx : Value) (w : World) (ha : TenS w va L (L.map dm) (flat xs)) (hx : IntS w vx x.1) :
 Calls Try.prog 50 #[ringV k p n, va, vx] w fun e w' => ∃ u, e = .returned u ∧ OwnT w' w.heap.size u L (L.map dm) (flat (scaleXs hr x xs)) ∧ Ext w w' := by
 have HTA := Lib.hid hta; clear hta
 have ha0 := ha
 obtain ⟨ap1, an1, ac1, ap2, an2, ac2, ap3, an3, ac3, rfl⟩ := ha.shape
 obtain ⟨_, _, _, hvv, haL, haD, haX⟩ := ha.val
 simp at hvv
 obtain ⟨rfl, rfl, rfl⟩ := hvv
 obtain ⟨_, _, hvv, _, _⟩ := haL.val
 simp at hvv
 obtain ⟨rfl, rfl, rfl⟩ := hvv
 obtain ⟨_, _, hvv, _, _⟩ := haD.val
 simp at hvv
 obtain ⟨rfl, rfl, rfl⟩ := hvv
 obtain ⟨_, _, hvv, _, _⟩ := haX.val
 simp at hvv
 obtain ⟨rfl, rfl, rfl⟩ := hvv
 obtain ⟨ax, cx, rfl, _, _⟩ := hx.val
 obtain ⟨P, W, hP, hW, hP1, hP2, hW1', hW6, hXl⟩ := (HTA.out.ok hr).nat hr
 have hPW1 : 1 ≤ P * W := Nat.mul_le_mul hP1 hW1'
 have hPW : P * W ≤ 4096 * 6 := Nat.mul_le_mul hP2 hW6
 obtain ⟨bA, oA, cA, hXX, hcA, _, hbA⟩ := haX.open (by omega)
 cases hXX
 have hX9 : (flat xs).length ≤ 1048576 := by omega
 have HWW := Lib.hid hW
 have HBA := Lib.hid hbA
 have hSl : xs.length = P := by have h1 := flat_length HWW.out xs; rw [hXl] at h1; exact (Nat.eq_of_mul_eq_mul_right (by omega) h1).symm
 have HPS : Hid (prodL (L.map dm) = (P : Int)) := Lib.hid hP
 have hYl : xs.length = xs.length := rfl
 obtain ⟨ZS, hZS⟩ : ∃ ZS, scaleXs hr x xs = ZS := ⟨_, rfl⟩
 have HStep : Hid (∀ j, j < P → ∃ y : List Int, j * W + W ≤ (flat xs).length ∧ getL (flat xs) (j * W) W = y ∧ rawOk k p n y = true ∧ putL (flat (mixX ZS xs j)) (j * W) (mulL k p x.1 y) = flat (mixX ZS xs (j + 1))) := Lib.hid fun j hj => by rw [← hZS]; exact scale_step hr HWW.out x (by omega)
 have hZl : ZS.length = xs.length := by rw [← hZS]; unfold scaleXs; rw [List.length_map]
 obtain ⟨N, hN⟩ : ∃ N, (flat xs).length = N := ⟨_, rfl⟩
 have hNX : N = P * W := by rw [← hN, flat_length HWW.out]; rw [hSl]
 have HZN : Hid (∀ j, (flat (mixX ZS xs j)).length = N) := Lib.hid fun j => by rw [← hN, flat_length HWW.out, flat_length HWW.out, mixX_length hZl]
 have HZ0 : Hid (mixX ZS xs 0 = xs) := Lib.hid (mixX_zero _ _)
 have HZP : Hid (mixX ZS xs P = ZS) := Lib.hid (by have := mixX_all hZl; rwa [hSl] at this)
 have hN1 : 1 ≤ N := by omega
 have hN9 : N ≤ 1048576 := by omega
 have HN0 := HStep
 rw [hZS]
 have HN := Lib.hid hN
 have hw := ringOk_wide hr
 have HR := Lib.hid hr
 clear hP hP1 hXl hPW1 hPW hSl hYl hZl hZS hN hNX hW
 have HYA := Lib.hid (HTA.out.yes hr)
 have HEK : Hid (elemOk k p n x.1 = true) := Lib.hid (elemOk_of hr x.2)
 have HXK := Lib.hid x.2
 have hxl : x.1.length = W := El.len HWW.out x
 have HXL := Lib.hid hxl; clear hxl HN0
 have hrk : L.length ≤ 12 := HTA.out.ax.rank
 generalize hW1 : (((w.alloc (.cells #[.int .i64 k, .int .i64 p, .int .i64 n] 24)).alloc (.cells #[.slice ap1 L.length ac1, .slice ap2 L.length ac2, .slice (some ⟨bA, oA, none⟩) (flat xs).length ac3] 32)).alloc (.cells #[.slice none 0 0, .slice none 0 0, .slice none 0 0] 32)) = w1
 have h1 : Ext w w1 := by rw [← hW1]; exact (by repeat' (first | (with_reducible exact Ext.refl _) | (with_reducible assumption) | (with_reducible apply Ext.alloc) | (with_reducible apply Ext.drew) | (with_reducible apply Ext.drewN) | (refine Ext.setAt ?_ (by omega) _ _) | (refine Ext.trans ?_ (by assumption))))
 have Br : Blk w1 (w.heap.size) 24 [.int .i64 k, .int .i64 p, .int .i64 n] := by rw [← hW1]; exact (((Blk.newB (c := #[_, _, _]) (by simp)).alloc _).alloc _)
 have Ba : Blk w1 (w.heap.size + 1) 32 [.slice ap1 L.length ac1, .slice ap2 L.length ac2, .slice (some ⟨bA, oA, none⟩) (flat xs).length ac3] := by rw [← hW1]; exact ((Blk.newB (c := #[_, _, _]) (by simp)).alloc _)
 have Bz : Blk w1 (w.heap.size + 2) 32 [.slice none 0 0, .slice none 0 0, .slice none 0 0] := by rw [← hW1]; exact (Blk.newB (c := #[_, _, _]) (by simp))
 have HS1 : Hid (w1.heap.size = w.heap.size + 3) := Lib.hid (by rw [← hW1]; simp)
 have HW := Lib.hid hW1; clear hW1
 go_enter Try.func50, Try.ntmps50
 go_wp2_with fail
 rw [HW.out]
 have ir_0 := Br.cell (j := 0) rfl
 have ir_1 := Br.cell (j := 1) rfl
 have ir_2 := Br.cell (j := 2) rfl
 have ia_0 := Ba.cell (j := 0) rfl
 have ia_1 := Ba.cell (j := 1) rfl
 have ia_2 := Ba.cell (j := 2) rfl
 go_wp2_with fail
 refine (tensorOk_impl k p n _ L _ _ _ (ha0.ext h1)).mono ?_; rintro e2 w2 ⟨rfl, h2⟩; rw [HYA.out]
 clear ir_0 ir_1 ir_2 ia_0 ia_1 ia_2
 have B2r := Br.ext h2
 have B2a := Ba.ext h2
 have B2z := Bz.ext h2
 have j2r_0 := B2r.cell (j := 0) rfl
 have j2r_1 := B2r.cell (j := 1) rfl
 have j2r_2 := B2r.cell (j := 2) rfl
 have j2a_0 := B2a.cell (j := 0) rfl
 have j2a_1 := B2a.cell (j := 1) rfl
 have j2a_2 := B2a.cell (j := 2) rfl
 have l2r := B2r.lt
 have l2a := B2a.lt
 have l2z := B2z.lt
 go_wp2_with fail
 refine (elemOk_impl k p n _ x.1 _ (hx.ext (h1.trans h2))).mono ?_; rintro e3 w3 ⟨rfl, h3⟩; rw [HEK.out]
 clear j2r_0 j2r_1 j2r_2 j2a_0 j2a_1 j2a_2 l2r l2a l2z
 have B3r := B2r.ext h3
 have B3a := B2a.ext h3
 have B3z := B2z.ext h3
 have j3r_0 := B3r.cell (j := 0) rfl
 have j3r_1 := B3r.cell (j := 1) rfl
 have j3r_2 := B3r.cell (j := 2) rfl
 have j3a_0 := B3a.cell (j := 0) rfl
 have j3a_1 := B3a.cell (j := 1) rfl
 have j3a_2 := B3a.cell (j := 2) rfl
 have l3r := B3r.lt
 have l3a := B3a.lt
 have l3z := B3z.lt
 go_wp2_with fail
 have E13 : Ext w1 w3 := h2.trans h3
 refine (copyTensor_any _ L (L.map dm) (flat xs) _ (ha0.ext (h1.trans E13)) (by omega) (by simp; omega) (by omega)).mono ?_; rintro e4 w4 ⟨v4, rfl, o4, h4⟩
 obtain ⟨q1, d1, q2, d2, q3, d3, rfl⟩ := o4.shapeN rfl (List.length_map _) HN.out
 obtain ⟨_, _, _, hvv, ocL, ocD, ocX, dc1, dc2⟩ := o4.val
 simp at hvv
 obtain ⟨rfl, rfl, rfl⟩ := hvv
 obtain ⟨bd, d3', hbd, hXX, hcd, _⟩ := ocX.open (by rw [HN.out]; omega)
 rw [HN.out] at hXX hcd
 cases hXX
 have hbdl := (ocX.block_lt (k := bd) rfl).2
 clear j3r_0 j3r_1 j3r_2 j3a_0 j3a_1 j3a_2 l3r l3a l3z
 have B4r := B3r.ext h4
 have B4a := B3a.ext h4
 have B4z := B3z.ext h4
 have j4r_0 := B4r.cell (j := 0) rfl
 have j4r_1 := B4r.cell (j := 1) rfl
 have j4r_2 := B4r.cell (j := 2) rfl
 have j4a_0 := B4a.cell (j := 0) rfl
 have j4a_1 := B4a.cell (j := 1) rfl
 have j4a_2 := B4a.cell (j := 2) rfl
 have l4r := B4r.lt
 have l4a := B4a.lt
 have l4z := B4z.lt
 go_wp2_with fail
 generalize hW5 : w4.alloc (.cells #[.slice q1 L.length d1, .slice q2 L.length d2, .slice (some ⟨bd, 0, none⟩) N d3] 32) = w5
 have h5 : Ext w4 w5 := by rw [← hW5]; exact (Ext.refl _).alloc _
 have Bc : Blk w5 w4.heap.size 32 [.slice q1 L.length d1, .slice q2 L.length d2, .slice (some ⟨bd, 0, none⟩) N d3] := by rw [← hW5]; exact Blk.new w4 #[_, _, _] 32
 have hsz5 : w5.heap.size = w4.heap.size + 1 := by rw [← hW5]; simp
 have HSZ5 := Lib.hid hsz5; clear hsz5
 clear hW5
 clear j4r_0 j4r_1 j4r_2 j4a_0 j4a_1 j4a_2 l4r l4a l4z
 have E3 : Ext w1 w5 := (E13.trans h4).trans h5
 have ocL3 := ocL.ext h5
 have ocD3 := ocD.ext h5
 have ocX3 := ocX.ext h5
 clear ocL ocD ocX
 have HMW : Hid (w1.heap.size ≤ w3.heap.size) := Lib.hid E13.size
 have D1 := Lib.hid dc1; have D2 := Lib.hid dc2; clear dc1 dc2
 have HBD : Hid (w3.heap.size ≤ bd ∧ bd < w4.heap.size) := Lib.hid ⟨hbd, hbdl⟩
 clear hbd hbdl
 have HS3 : Hid (w3.heap.size ≤ w4.heap.size) := Lib.hid (by have := h4.size; omega)
 go_loopw [8] (fun i wr => ∃ (j : Nat) (X : List Int), j ≤ P ∧ i = .int .i64 j ∧ Hid (flat (mixX ZS xs j) = X ∧ X.length = N) ∧ Blk wr w4.heap.size 32 [.slice q1 L.length d1, .slice q2 L.length d2, .slice (some ⟨bd, 0, none⟩) N d3] ∧ OwnI wr w3.heap.size (.slice q1 L.length d1) L ∧ OwnI wr w3.heap.size (.slice q2 L.length d2) (L.map dm) ∧ OwnI wr w3.heap.size (.slice (some ⟨bd, 0, none⟩) N d3) X ∧ Ext w1 wr) (fun i wr => P - (RowKit.intOf i).toNat)
 case atStart => exact ⟨0, flat xs, Nat.zero_le _, rfl, Lib.hid ⟨by rw [HZ0.out], HN.out⟩, Bc, ocL3, ocD3, ocX3, E3⟩
 case round =>
  obtain ⟨j, X, hj, rfl, hX, Bcr, oLr, oDr, oXr, hE⟩ := hrel
  clear ocL3 ocD3 ocX3
  have Gr := Br.ext hE
  have Ga := Ba.ext hE
  have Gz := Bz.ext hE
  have ir_0 := Gr.cell (j := 0) rfl
  have ir_1 := Gr.cell (j := 1) rfl
  have ir_2 := Gr.cell (j := 2) rfl
  have ia_0 := Ga.cell (j := 0) rfl
  have ia_1 := Ga.cell (j := 1) rfl
  have ia_2 := Ga.cell (j := 2) rfl
  have ic_0 := Bcr.cell (j := 0) rfl
  have ic_1 := Bcr.cell (j := 1) rfl
  have ic_2 := Bcr.cell (j := 2) rfl
  have lgr := Gr.lt
  have lga := Ga.lt
  have lgz := Gz.lt
  have lgc := Bcr.lt
  by_cases hlt : j < P
  · go_wp2_with fail
    refine (productOf_any _ (L.map dm) _ ((haD.ext h1).ext hE) HTA.out.ax.dims HTA.out.ax.size).mono ?_; rintro e5 w5' ⟨rfl, rfl⟩; rw [HPS.out]
    obtain ⟨y, hf, hg2, hyk, hm⟩ := HStep.out j hlt
    rw [hX.out.1] at hm
    rw [HN.out] at hf
    have jW : (j : Int) * (W : Int) = ((j * W : Nat) : Int) := by simp
    have JW := Lib.hid jW; clear jW
    have hj0 : (0 : Int) ≤ (j : Int) := by omega
    skip
    have HYK := Lib.hid hyk
    have HM := Lib.hid hm
    have HG2 := Lib.hid hg2
    skip
    clear hyk hm hg2
    have HF := Lib.hid hf; have HFX : Hid (j * W + W ≤ (flat xs).length) := Lib.hid (by rw [HN.out]; exact hf); clear hf
    have D0 : Ext wr wr.drew := (Ext.refl _).drew
    have hsA := haX.ext (h1.trans hE)
    have hnA : (Value.slice (some ⟨bA, oA + j * W, none⟩) W (ac3 - j * W)).ownBlock ≠ some bd := by have := HBD.out; have := HBA.out; have := HS1.out; have := HMW.out; simp [Value.ownBlock]; omega
    have hnX : (Value.slice ax x.1.length cx).ownBlock ≠ some bd := fun e => by have := hx.block_lt (by rw [HXL.out]; exact hW1') e; have := HBD.out; have := HS1.out; have := HMW.out; omega
    have hxs := hx.ext (h1.trans hE)
    go_upto_region 7 with fail
    go_region_held3 (fun w' => w'.cell? ⟨w.heap.size, 0, none⟩ = some (.int .i64 k) ∧ w'.cell? ⟨w.heap.size, 1, none⟩ = some (.int .i64 p) ∧ w'.cell? ⟨w.heap.size, 2, none⟩ = some (.int .i64 n) ∧ w'.cell? ⟨w.heap.size + 1, 0, none⟩ = some (.slice ap1 L.length ac1) ∧ w'.cell? ⟨w.heap.size + 1, 1, none⟩ = some (.slice ap2 L.length ac2) ∧ w'.cell? ⟨w.heap.size + 1, 2, none⟩ = some (.slice (some ⟨bA, oA, none⟩) (flat xs).length ac3) ∧ w'.cell? ⟨w4.heap.size, 0, none⟩ = some (.slice q1 L.length d1) ∧ w'.cell? ⟨w4.heap.size, 1, none⟩ = some (.slice q2 L.length d2) ∧ w'.cell? ⟨w4.heap.size, 2, none⟩ = some (.slice (some ⟨bd, 0, none⟩) N d3))
     (refine ⟨?_, ?_, ?_, ?_, ?_, ?_, ?_, ?_, ?_⟩ <;> first | (with_reducible assumption) | exact ((Ext.refl _).drew).cell (by with_reducible assumption) | exact grown_cell (grown_setCell (grown_refl _ _) _ _) (by with_reducible assumption) (by with_reducible assumption))
     (first | (go_at_call 110; (with_reducible refine (rawElem_any k p n j (j * W) W HWW.out _ _ _ _ _ _ bd N d3 wr.drew JW.out hj0 hw HF.out hcd hN9).mono ?_); rintro e21 w21 ⟨rfl, h21⟩; have E21 : Ext wr w21 := D0.trans h21; have u21_0 := E21.cell ir_0; have u21_1 := E21.cell ir_1; have u21_2 := E21.cell ir_2; have u21_3 := E21.cell ia_0; have u21_4 := E21.cell ia_1; have u21_5 := E21.cell ia_2; have u21_6 := E21.cell ic_0; have u21_7 := E21.cell ic_1; have u21_8 := E21.cell ic_2) | (go_at_call 110; (with_reducible refine (rawElem_gen k p n j (j * W) W HWW.out _ _ _ _ _ _ bA oA (flat xs).length ac3 w21 JW.out hj0 hw HFX.out hcA hX9).mono ?_); rintro e22 w22 ⟨rfl, h22⟩; have E22 : Ext wr w22 := E21.trans h22; have u22_0 := E22.cell ir_0; have u22_1 := E22.cell ir_1; have u22_2 := E22.cell ir_2; have u22_3 := E22.cell ia_0; have u22_4 := E22.cell ia_1; have u22_5 := E22.cell ia_2; have u22_6 := E22.cell ic_0; have u22_7 := E22.cell ic_1; have u22_8 := E22.cell ic_2; have pA := IntS.part (hsA.ext E22) (W := W) (o := j * W) hW1' HFX.out; rw [HG2.out] at pA) | (go_at_call 131; (with_reducible refine (mulInto_part k p n w3.heap.size bd (j * W) W N d3 (d3 - j * W) _ _ X _ y w22 HR.out (oXr.ext E22) hX.out.2 HF.out (hxs.ext E22) pA hnX hnA HXK.out HYK.out HXL.out).mono ?_); rintro e23 w23 ⟨rfl, oX23, g23⟩; have E23 : Ext w1 w23 := (hE.trans E22).only g23 (fun q hq => by injection hq with hq; have := HBD.out; have := HMW.out; omega); have Bc23 := (Bcr.ext E22).block (g23.block _ (by have := E22.size; omega) (fun e => by injection e with e; have := HBD.out; omega)); have vr_0 := (Br.ext E23).cell (j := 0) rfl; have vr_1 := (Br.ext E23).cell (j := 1) rfl; have vr_2 := (Br.ext E23).cell (j := 2) rfl; have va_0 := (Ba.ext E23).cell (j := 0) rfl; have va_1 := (Ba.ext E23).cell (j := 1) rfl; have va_2 := (Ba.ext E23).cell (j := 2) rfl; have vc_0 := Bc23.cell (j := 0) rfl; have vc_1 := Bc23.cell (j := 1) rfl; have vc_2 := Bc23.cell (j := 2) rfl))
    rw [HM.out] at oX23
    have nb : ∀ (v : Value) (l : List Int), OwnI wr w3.heap.size v l → (∀ q, v.ownBlock = some q → q ≠ bd) → OwnI w23 w3.heap.size v l := fun v l h hq => (h.ext E22).only g23 (fun z hz e => hq z hz (by injection e with e; exact e.symm))
    have oL23 := nb _ _ oLr (fun q hq e => (D1.out q hq).2 (by rw [e]; rfl))
    have oD23 := nb _ _ oDr (fun q hq e => D2.out q hq (by rw [e]; rfl))
    clear nb oLr oDr oXr
    go_wp2_with fail
    go_roundw
    case rel => exact ⟨j + 1, _, by omega, by go_num, Lib.hid ⟨rfl, HZN.out _⟩, Bc23, oL23, oD23, oX23, E23⟩
    case measure => simp [RowKit.intOf]; omega
  · have : j = P := by omega
    subst this
    have hXz := hX.out.1
    rw [HZP.out] at hXz
    subst hXz
    go_wp2_with fail
    refine (productOf_any _ (L.map dm) _ ((haD.ext h1).ext hE) HTA.out.ax.dims HTA.out.ax.size).mono ?_; rintro e5 w5' ⟨rfl, rfl⟩; rw [HPS.out]
    have HOL := Lib.hid oLr; have HOD := Lib.hid oDr; have HOX := Lib.hid oXr; clear oLr oDr oXr
    have f0 := Gz.free 0
    have f1 := Gz.free 1
    have f2 := Gz.free 2
    have z0 := Gz.cell (j := 0) rfl
    have z1 := Gz.cell (j := 1) rfl
    have z2 := Gz.cell (j := 2) rfl
    have hlt3 : w.heap.size + 1 + 1 < w3.heap.size := by have := HS1.out; have := HMW.out; omega
    have hzc : w.heap.size + 1 + 1 ≠ w4.heap.size := by have := HS3.out; omega
    have hzc2 : w4.heap.size ≠ w.heap.size + 1 + 1 := hzc.symm
    go_upto_region 8 with fail
    repeat go_step
    refine bodyPost_ret (v := .agg #[.slice q1 L.length d1, .slice q2 L.length d2, .slice (some ⟨bd, 0, none⟩) N d3]) (by simp [results, Try.results50, go_sem, *]) rfl ?_
    refine ⟨_, rfl, ⟨_, _, _, rfl, ?_, ?_, ?_, D1.out, D2.out⟩, (((h1.trans hE).setAt (by omega) _ _).setAt (by omega) _ _).setAt (by omega) _ _⟩
    · exact (((HOL.out.setBelow hlt3 _).setBelow hlt3 _).setBelow hlt3 _).mono (by omega)
    · exact (((HOD.out.setBelow hlt3 _).setBelow hlt3 _).setBelow hlt3 _).mono (by omega)
    · exact (((HOX.out.setBelow hlt3 _).setBelow hlt3 _).setBelow hlt3 _).mono (by omega)
end
end Go.Proofs.Ytpegckmagiaggaa
