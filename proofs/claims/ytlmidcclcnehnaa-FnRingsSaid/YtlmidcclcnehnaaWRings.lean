/- The law 'FnRings', walked. -/
import Derived.Test.YtlmidcclcnehnaaAlgOf
import Derived.Test.YtlmidcclcnehnaaDrawE
import Derived.Test.YtlmidcclcnehnaaMulW
import Derived.Deep.RegionHeld3
namespace Go.Proofs.Ytlmidcclcnehnaa
open Go.RowKit
set_option linter.unusedSimpArgs false
set_option linter.unusedVariables false

set_option maxRecDepth 100000 in
set_option maxHeartbeats 8000000 in
theorem walkFnRings (v : Value) (l : List Int) (w : World) (hl : ByteS w v l) (hall : ∀ x ∈ l, 0 ≤ x ∧ x ≤ 255) :
    Calls Try.prog 9 #[v] w fun e w' => e = .returned (.bool true) ∧ Ext w w' := by
  obtain ⟨a, cap, rfl, hc1, hc2⟩ := hl.val
  by_cases big : 1048576 < l.length
  · go_enter Try.func9, Try.ntmps9
    go_wp2
    go_ret
    exact ⟨rfl, (by repeat' (first | (with_reducible exact Ext.refl _) | (with_reducible assumption) | (with_reducible apply Ext.alloc) | (with_reducible apply Ext.drew) | (with_reducible apply Ext.drewN) | (refine Ext.setAt ?_ (by omega) _ _) | (refine Ext.trans ?_ (by assumption))))⟩
  have hC : Code w (.slice a l.length cap) l := ⟨hl, hall, by omega⟩
  have HALL := Lib.hid hall; clear hall
  go_enter Try.func9, Try.ntmps9
  go_wp2_with fail
  refine (makeRing_any _ l 0 _ hC (by omega)).mono ?_; rintro e1 w1 ⟨k, p, n, rfl, hd, h1⟩
  have hr := drawn_ok hd
  have HR := Lib.hid hr; clear hr
  clear hd
  go_wp2_with fail
  have W1 : Ext w1 (w1.alloc (.cells #[.int .i64 k, .int .i64 p, .int .i64 n] 28)) := (by repeat' (first | (with_reducible exact Ext.refl _) | (with_reducible assumption) | (with_reducible apply Ext.alloc) | (with_reducible apply Ext.drew) | (with_reducible apply Ext.drewN) | (refine Ext.setAt ?_ (by omega) _ _) | (refine Ext.trans ?_ (by assumption))))
  refine (makeElem_any _ l 10 k p n HR.out _ ((hC.ext h1).ext W1) (by omega)).mono ?_; rintro e2 w2 ⟨v2, x, rfl, o2, x2, h2⟩
  have BK : Blk w2 w1.heap.size 28 [.int .i64 k, .int .i64 p, .int .i64 n] := (Blk.new w1 #[.int .i64 k, .int .i64 p, .int .i64 n] 28).ext h2
  obtain ⟨a2, cap2, rfl, _, _⟩ := o2.ints.val
  have E2 : Ext w w2 := (by repeat' (first | (with_reducible exact Ext.refl _) | (with_reducible assumption) | (with_reducible apply Ext.alloc) | (with_reducible apply Ext.drew) | (with_reducible apply Ext.drewN) | (refine Ext.setAt ?_ (by omega) _ _) | (refine Ext.trans ?_ (by assumption))))
  have C2 := hC.ext E2
  clear W1
  have i0 := BK.cell (j := 0) rfl
  have i1 := BK.cell (j := 1) rfl
  have i2 := BK.cell (j := 2) rfl
  have X2 := Lib.hid x2; clear x2
  go_wp2_with fail
  refine (makeElem_any _ l 20 k p n HR.out _ C2 (by omega)).mono ?_; rintro e3 w3 ⟨v3, y, rfl, o3, x3, h3⟩
  have i0' := h3.cell i0
  have i1' := h3.cell i1
  have i2' := h3.cell i2
  obtain ⟨a3, cap3, rfl, _, _⟩ := o3.ints.val
  have X3 := Lib.hid x3; clear x3
  clear i0 i1 i2
  go_wp2_with fail
  refine (makeElem_any _ l 30 k p n HR.out _ (C2.ext h3) (by omega)).mono ?_; rintro e4 w4 ⟨v4, z, rfl, o4, x4, h4⟩
  have i0 := h4.cell i0'
  have i1 := h4.cell i1'
  have i2 := h4.cell i2'
  obtain ⟨a4, cap4, rfl, _, _⟩ := o4.ints.val
  have L := elem_laws HR.out X2.out X3.out x4
  clear x4 i0' i1' i2'
  have HL := Lib.hid L; clear L
  have p2 := o2.ext (h3.trans h4)
  have p3 := o3.ext h4
  have E4 := E2.trans (h3.trans h4)
  clear o2 o3 h2 h3 h4 h1 E2 C2 BK
  go_wp2_with fail
  refine (addElem_impl k p n _ _ x y _ p2.ints p3.ints).mono ?_; rintro e5 w5 ⟨v5, rfl, o5, h5⟩
  have j0 := h5.cell i0
  have j1 := h5.cell i1
  have j2 := h5.cell i2
  obtain ⟨a5, cap5, rfl, _, _⟩ := o5.ints.val
  go_wp2_with fail
  refine (mulElem_impl k p n _ _ x y _ (p2.ints.ext h5) (p3.ints.ext h5)).mono ?_; rintro e6 w6 ⟨v6, rfl, o6, h6⟩
  obtain ⟨a6, cap6, rfl, _, _⟩ := o6.ints.val
  have k0 := h6.cell j0
  have k1 := h6.cell j1
  have k2 := h6.cell j2
  have q2 := p2.ext (h5.trans h6)
  have q3 := p3.ext (h5.trans h6)
  have q4 := o4.ext (h5.trans h6)
  have E6 := E4.trans (h5.trans h6)
  have q5 := o5.ext h6
  clear i0 i1 i2 j0 j1 j2 p2 p3 o4 o5 h5 h6 E4
  go_wp2_with fail
  refine (elemOk_impl k p n _ _ _ q5.ints).mono ?_; rintro e7 w7 ⟨rfl, h7⟩; rw [HL.out.okAdd]
  have m0 := h7.cell k0
  have m1 := h7.cell k1
  have m2 := h7.cell k2
  go_wp2_with fail
  refine (elemOk_impl k p n _ _ _ (o6.ints.ext h7)).mono ?_; rintro e8 w8 ⟨rfl, h8⟩; rw [HL.out.okMul]
  have n0 := h8.cell m0
  have n1 := h8.cell m1
  have n2 := h8.cell m2
  go_wp2_with fail
  refine (addElem_impl k p n _ _ y x _ (q3.ints.ext (h7.trans h8)) (q2.ints.ext (h7.trans h8))).mono ?_; rintro e9 w9 ⟨v9, rfl, o9, h9⟩
  obtain ⟨a9, cap9, rfl, _, _⟩ := o9.ints.val
  have r0 := h9.cell n0
  have r1 := h9.cell n1
  have r2 := h9.cell n2
  go_wp2_with fail
  refine (ints_same _ _ _ _ _ (q5.ints.ext (h7.trans (h8.trans h9))) o9.ints HL.out.addC).mono ?_; rintro e10 w10 ⟨rfl, rfl⟩
  go_wp2_with fail
  refine (mulElem_impl k p n _ _ y x _ (q3.ints.ext (h7.trans (h8.trans h9))) (q2.ints.ext (h7.trans (h8.trans h9)))).mono ?_; rintro e11 w11 ⟨v11, rfl, o11, h11⟩
  obtain ⟨a11, cap11, rfl, _, _⟩ := o11.ints.val
  have u0 := h11.cell r0
  have u1 := h11.cell r1
  have u2 := h11.cell r2
  go_wp2_with fail
  refine (ints_same _ _ _ _ _ (o6.ints.ext (h7.trans (h8.trans (h9.trans h11)))) o11.ints HL.out.mulC).mono ?_; rintro e12 w12 ⟨rfl, rfl⟩
  have H11 := h7.trans (h8.trans (h9.trans h11))
  have s2 := q2.ext H11
  have s3 := q3.ext H11
  have s4 := q4.ext H11
  have s5 := q5.ext H11
  have s6 := o6.ext H11
  have E11 := E6.trans H11
  clear H11
  clear k0 k1 k2 m0 m1 m2 n0 n1 n2 r0 r1 r2 q2 q3 q4 q5 o6 o9 o11 h7 h8 h9 h11 E6
  go_wp2_with fail
  have D0 : Ext w11 w11.drew := (Ext.refl _).drew
  go_region_held3 (fun w' => w'.cell? ⟨w1.heap.size, 0, none⟩ = some (.int .i64 k) ∧ w'.cell? ⟨w1.heap.size, 1, none⟩ = some (.int .i64 p) ∧ w'.cell? ⟨w1.heap.size, 2, none⟩ = some (.int .i64 n))
    (refine ⟨?_, ?_, ?_⟩ <;> first | assumption | exact ((Ext.refl _).alloc _).cell (by assumption) | (simp [*]; done))
    (first | (go_at_call 28; (with_reducible refine (mulElem_impl k p n _ _ _ _ _ (s2.ints.ext D0) (s4.ints.ext D0)).mono ?_); rintro e1 x1 ⟨t1, rfl, r1, q1⟩; have g1 : Ext w11 x1 := D0.trans q1; have c1 : Ext w11 x1 := g1; have b1_0 := c1.cell u0; have b1_1 := c1.cell u1; have b1_2 := c1.cell u2) | (go_at_call 28; (with_reducible refine (mulElem_impl k p n _ _ _ _ _ (s3.ints.ext c1) (s4.ints.ext c1)).mono ?_); rintro e2 x2 ⟨t2, rfl, r2, g2⟩; have c2 : Ext w11 x2 := c1.trans g2; have b2_0 := c2.cell u0; have b2_1 := c2.cell u1; have b2_2 := c2.cell u2) | (go_at_call 25; (with_reducible refine (addElem_impl k p n _ _ _ _ _ (r1.ints.ext g2) (r2.ints.ext (Ext.refl _))).mono ?_); rintro e3 x3 ⟨t3, rfl, r3, g3⟩; have c3 : Ext w11 x3 := c2.trans g3; have b3_0 := c3.cell u0; have b3_1 := c3.cell u1; have b3_2 := c3.cell u2))
  go_wp2_with fail
  simp only [List.append]
  have D1 : Ext w11 x3.drew := c3.drew
  go_region_held3 (fun w' => w'.cell? ⟨w1.heap.size, 0, none⟩ = some (.int .i64 k) ∧ w'.cell? ⟨w1.heap.size, 1, none⟩ = some (.int .i64 p) ∧ w'.cell? ⟨w1.heap.size, 2, none⟩ = some (.int .i64 n))
    (refine ⟨?_, ?_, ?_⟩ <;> first | assumption | exact ((Ext.refl _).alloc _).cell (by assumption) | (simp [*]; done))
    (first | (go_at_call 28; (with_reducible refine (mulElem_impl k p n _ _ _ _ _ (s5.ints.ext D1) (s4.ints.ext D1)).mono ?_); rintro e4 x4 ⟨t4, rfl, r4, q4⟩; have g4 : Ext x3 x4 := ((Ext.refl _).drew).trans q4; have c4 : Ext w11 x4 := c3.trans g4; have b4_0 := c4.cell u0; have b4_1 := c4.cell u1; have b4_2 := c4.cell u2) | (go_at_call 42; (with_reducible refine (ints_same _ _ _ _ _ (r4.ints.ext (Ext.refl _)) (r3.ints.ext g4) HL.out.dist).mono ?_); rintro e5 u5 ⟨rfl, rfl⟩) | (go_at_call 25; (with_reducible refine (addElem_impl k p n _ _ _ _ _ (s5.ints.ext c4) (s4.ints.ext c4)).mono ?_); rintro e6 x6 ⟨t6, rfl, r6, g6⟩; have c6 : Ext w11 x6 := c4.trans g6; have b6_0 := c6.cell u0; have b6_1 := c6.cell u1; have b6_2 := c6.cell u2) | (go_at_call 25; (with_reducible refine (addElem_impl k p n _ _ _ _ _ (s3.ints.ext c6) (s4.ints.ext c6)).mono ?_); rintro e7 x7 ⟨t7, rfl, r7, g7⟩; have c7 : Ext w11 x7 := c6.trans g7; have b7_0 := c7.cell u0; have b7_1 := c7.cell u1; have b7_2 := c7.cell u2) | (go_at_call 25; (with_reducible refine (addElem_impl k p n _ _ _ _ _ (s2.ints.ext c7) (r7.ints.ext (Ext.refl _))).mono ?_); rintro e8 x8 ⟨t8, rfl, r8, g8⟩; have c8 : Ext w11 x8 := c7.trans g8; have b8_0 := c8.cell u0; have b8_1 := c8.cell u1; have b8_2 := c8.cell u2) | (go_at_call 42; (with_reducible refine (ints_same _ _ _ _ _ (r6.ints.ext (g7.trans g8)) (r8.ints.ext (Ext.refl _)) HL.out.addA).mono ?_); rintro e9 u9 ⟨rfl, rfl⟩) | (go_at_call 28; (with_reducible refine (mulElem_impl k p n _ _ _ _ _ (s6.ints.ext c8) (s4.ints.ext c8)).mono ?_); rintro e10 x10 ⟨t10, rfl, r10, g10⟩; have c10 : Ext w11 x10 := c8.trans g10; have b10_0 := c10.cell u0; have b10_1 := c10.cell u1; have b10_2 := c10.cell u2) | (go_at_call 28; (with_reducible refine (mulElem_impl k p n _ _ _ _ _ (s3.ints.ext c10) (s4.ints.ext c10)).mono ?_); rintro e11 x11 ⟨t11, rfl, r11, g11⟩; have c11 : Ext w11 x11 := c10.trans g11; have b11_0 := c11.cell u0; have b11_1 := c11.cell u1; have b11_2 := c11.cell u2) | (go_at_call 28; (with_reducible refine (mulElem_impl k p n _ _ _ _ _ (s2.ints.ext c11) (r11.ints.ext (Ext.refl _))).mono ?_); rintro e12 x12 ⟨t12, rfl, r12, g12⟩; have c12 : Ext w11 x12 := c11.trans g12; have b12_0 := c12.cell u0; have b12_1 := c12.cell u1; have b12_2 := c12.cell u2) | (go_at_call 42; (with_reducible refine (ints_same _ _ _ _ _ (r10.ints.ext (g11.trans g12)) (r12.ints.ext (Ext.refl _)) HL.out.mulA).mono ?_); rintro e13 u13 ⟨rfl, rfl⟩) | (go_at_call 43; (with_reducible refine (zeroOf_impl k p n x12).mono ?_); rintro e14 x14 ⟨t14, rfl, r14, g14⟩; have c14 : Ext w11 x14 := c12.trans g14; have b14_0 := c14.cell u0; have b14_1 := c14.cell u1; have b14_2 := c14.cell u2) | (go_at_call 25; (with_reducible refine (addElem_impl k p n _ _ _ _ _ (s2.ints.ext c14) (r14.ints.ext (Ext.refl _))).mono ?_); rintro e15 x15 ⟨t15, rfl, r15, g15⟩; have c15 : Ext w11 x15 := c14.trans g15; have b15_0 := c15.cell u0; have b15_1 := c15.cell u1; have b15_2 := c15.cell u2) | (go_at_call 42; (with_reducible refine (ints_same _ _ _ _ _ (r15.ints.ext (Ext.refl _)) (s2.ints.ext c15) HL.out.addZ).mono ?_); rintro e16 u16 ⟨rfl, rfl⟩) | (go_at_call 44; (with_reducible refine (oneOf_impl k p n x15).mono ?_); rintro e17 x17 ⟨t17, rfl, r17, g17⟩; have c17 : Ext w11 x17 := c15.trans g17; have b17_0 := c17.cell u0; have b17_1 := c17.cell u1; have b17_2 := c17.cell u2) | (go_at_call 28; (with_reducible refine (mulElem_impl k p n _ _ _ _ _ (s2.ints.ext c17) (r17.ints.ext (Ext.refl _))).mono ?_); rintro e18 x18 ⟨t18, rfl, r18, g18⟩; have c18 : Ext w11 x18 := c17.trans g18; have b18_0 := c18.cell u0; have b18_1 := c18.cell u1; have b18_2 := c18.cell u2) | (go_at_call 42; (with_reducible refine (ints_same _ _ _ _ _ (r18.ints.ext (Ext.refl _)) (s2.ints.ext c18) HL.out.mulO).mono ?_); rintro e19 u19 ⟨rfl, rfl⟩) | (go_at_call 43; (with_reducible refine (zeroOf_impl k p n x18).mono ?_); rintro e20 x20 ⟨t20, rfl, r20, g20⟩; have c20 : Ext w11 x20 := c18.trans g20; have b20_0 := c20.cell u0; have b20_1 := c20.cell u1; have b20_2 := c20.cell u2) | (go_at_call 28; (with_reducible refine (mulElem_impl k p n _ _ _ _ _ (s2.ints.ext c20) (r20.ints.ext (Ext.refl _))).mono ?_); rintro e21 x21 ⟨t21, rfl, r21, g21⟩; have c21 : Ext w11 x21 := c20.trans g21; have b21_0 := c21.cell u0; have b21_1 := c21.cell u1; have b21_2 := c21.cell u2) | (go_at_call 43; (with_reducible refine (zeroOf_impl k p n x21).mono ?_); rintro e22 x22 ⟨t22, rfl, r22, g22⟩; have c22 : Ext w11 x22 := c21.trans g22; have b22_0 := c22.cell u0; have b22_1 := c22.cell u1; have b22_2 := c22.cell u2) | (go_at_call 42; (with_reducible refine (ints_same _ _ _ _ _ (r21.ints.ext g22) (r22.ints.ext (Ext.refl _)) HL.out.mulZ).mono ?_); rintro e23 u23 ⟨rfl, rfl⟩) | (go_at_call 36; (with_reducible refine (sumElems_impl k p n _ _ _ (RowsS.built3 (w := x22) (s2.ints.ext c22) (s3.ints.ext c22) (s4.ints.ext c22))).mono ?_); rintro e24 x24 ⟨t24, rfl, r24, q24⟩; have g24 : Ext x22 x24 := ((Ext.refl _).alloc _).trans q24; have c24 : Ext w11 x24 := c22.trans g24; have b24_0 := c24.cell u0; have b24_1 := c24.cell u1; have b24_2 := c24.cell u2) | (go_at_call 25; (with_reducible refine (addElem_impl k p n _ _ _ _ _ (s5.ints.ext c24) (s4.ints.ext c24)).mono ?_); rintro e25 x25 ⟨t25, rfl, r25, g25⟩; have c25 : Ext w11 x25 := c24.trans g25; have b25_0 := c25.cell u0; have b25_1 := c25.cell u1; have b25_2 := c25.cell u2) | (go_at_call 42; (with_reducible refine (ints_same _ _ _ _ _ (r24.ints.ext g25) (r25.ints.ext (Ext.refl _)) HL.out.sum).mono ?_); rintro e26 u26 ⟨rfl, rfl⟩) | (go_at_call 45; (with_reducible refine (ringWidth_impl k p n x25).mono ?_); rintro e27 x27 ⟨rfl, g27⟩; have c27 : Ext w11 x27 := c25.trans g27; have b27_0 := c27.cell u0; have b27_1 := c27.cell u1; have b27_2 := c27.cell u2; rw [HL.out.width]))
  go_wp2
  go_ret
  exact ⟨rfl, E11.trans c27⟩
end Go.Proofs.Ytlmidcclcnehnaa
