/- The law 'FnCounts', walked. -/
import Derived.Test.YtlmidcclcnehnaaAlgC
import Derived.Test.YtlmidcclcnehnaaDrawS
import Derived.Test.YtlmidcclcnehnaaMulW
import Derived.Deep.RegionHeld3
namespace Go.Proofs.Ytlmidcclcnehnaa
open Go.RowKit
set_option linter.unusedSimpArgs false
set_option linter.unusedVariables false

set_option maxRecDepth 100000 in
set_option maxHeartbeats 8000000 in
theorem walkFnCounts (v : Value) (l : List Int) (w : World) (hl : ByteS w v l) (hall : ∀ x ∈ l, 0 ≤ x ∧ x ≤ 255) :
    Calls Try.prog 10 #[v] w fun e w' => e = .returned (.bool true) ∧ Ext w w' := by
  obtain ⟨ca, cap, rfl, hc1, hc2⟩ := hl.val
  by_cases big : 1048576 < l.length
  · go_enter Try.func10, Try.ntmps10
    go_wp2
    go_ret
    exact ⟨rfl, (by repeat' (first | (with_reducible exact Ext.refl _) | (with_reducible assumption) | (with_reducible apply Ext.alloc) | (with_reducible apply Ext.drew) | (with_reducible apply Ext.drewN) | (refine Ext.setAt ?_ (by omega) _ _) | (refine Ext.trans ?_ (by assumption))))⟩
  have hC : Code w (.slice ca l.length cap) l := ⟨hl, hall, by omega⟩
  have HALL := Lib.hid hall; clear hall
  go_enter Try.func10, Try.ntmps10
  go_wp2_with fail
  refine (makeRing_any _ l 0 _ hC (by omega)).mono ?_; rintro e1 w1 ⟨k, p, n, rfl, hd, h1⟩
  have hr := drawn_ok hd
  have HR := Lib.hid hr; clear hr
  clear hd
  go_wp2_with fail
  have W1 : Ext w1 (w1.alloc (.cells #[.int .i64 k, .int .i64 p, .int .i64 n] 28)) := (by repeat' (first | (with_reducible exact Ext.refl _) | (with_reducible assumption) | (with_reducible apply Ext.alloc) | (with_reducible apply Ext.drew) | (with_reducible apply Ext.drewN) | (refine Ext.setAt ?_ (by omega) _ _) | (refine Ext.trans ?_ (by assumption))))
  refine (makeElem_any _ l 10 k p n HR.out _ ((hC.ext h1).ext W1) (by omega)).mono ?_; rintro e2 w2 ⟨v2, x, rfl, o2, x2, h2⟩
  have BK : Blk w2 w1.heap.size 28 [.int .i64 k, .int .i64 p, .int .i64 n] := (Blk.new w1 #[.int .i64 k, .int .i64 p, .int .i64 n] 28).ext h2
  obtain ⟨a2, cap2, rfl, _, _⟩ := o2.ints.val
  have E2 : Ext w w2 := (by repeat' (first | (with_reducible exact Ext.refl _) | (with_reducible assumption) | (with_reducible apply Ext.alloc) | (with_reducible apply Ext.drew) | (with_reducible apply Ext.drewN) | (refine Ext.setAt ?_ (by omega) _ _) | (refine Ext.trans ?_ (by assumption))))
  have C2 := hC.ext E2
  clear W1
  have X2 := Lib.hid x2; clear x2
  go_wp2_with fail
  refine (makeSize_any _ l 20 0 99 _ C2 (by omega) (by omega)).mono ?_; rintro e3 w3 ⟨a, rfl, ha, h3⟩
  go_wp2_with fail
  refine (makeSize_any _ l 22 0 99 _ (C2.ext h3) (by omega) (by omega)).mono ?_; rintro e4 w4 ⟨b, rfl, hb, h4⟩
  have L := count_laws HR.out X2.out ha hb
  have HL := Lib.hid L; clear L
  have B4 := (BK.ext h3).ext h4
  have i0 := B4.cell (j := 0) rfl
  have i1 := B4.cell (j := 1) rfl
  have i2 := B4.cell (j := 2) rfl
  have p2 := o2.ext (h3.trans h4)
  have E4 := E2.trans (h3.trans h4)
  obtain ⟨ha0, ha1⟩ := ha
  obtain ⟨hb0, hb1⟩ := hb
  have m0 := Int.mul_nonneg ha0 hb0
  have m1 : a * b ≤ 99 * 99 := Int.mul_le_mul ha1 hb1 hb0 (by omega)
  have z1 : IntKind.i64.wrap (a + b) = a + b := by rw [IntKind.wrap_i64]; omega
  have z2 : IntKind.i64.wrap (a * b) = a * b := by rw [IntKind.wrap_i64]; omega
  clear o2 h2 h3 h4 h1 E2 C2 BK B4
  go_wp2_with fail
  try simp only [List.append]
  have D0 : Ext w4 w4.drew := (Ext.refl _).drew
  go_region_held3 (fun w' => w'.cell? ⟨w1.heap.size, 0, none⟩ = some (.int .i64 k) ∧ w'.cell? ⟨w1.heap.size, 1, none⟩ = some (.int .i64 p) ∧ w'.cell? ⟨w1.heap.size, 2, none⟩ = some (.int .i64 n))
    (refine ⟨?_, ?_, ?_⟩ <;> first | assumption | exact ((Ext.refl _).alloc _).cell (by assumption) | (simp [*]; done))
    (first | (go_at_call 47; (with_reducible refine (countElem_impl k p n (a + b) (by omega) w4.drew).mono ?_); rintro e1 x1 ⟨t1, rfl, r1, q1⟩; have g1 : Ext w4 x1 := D0.trans q1; have c1 : Ext w4 x1 := g1; have b1_0 := c1.cell i0; have b1_1 := c1.cell i1; have b1_2 := c1.cell i2) | (go_at_call 47; (with_reducible refine (countElem_impl k p n (a) (by omega) x1).mono ?_); rintro e2 x2 ⟨t2, rfl, r2, g2⟩; have c2 : Ext w4 x2 := c1.trans g2; have b2_0 := c2.cell i0; have b2_1 := c2.cell i1; have b2_2 := c2.cell i2) | (go_at_call 47; (with_reducible refine (countElem_impl k p n (b) (by omega) x2).mono ?_); rintro e3 x3 ⟨t3, rfl, r3, g3⟩; have c3 : Ext w4 x3 := c2.trans g3; have b3_0 := c3.cell i0; have b3_1 := c3.cell i1; have b3_2 := c3.cell i2) | (go_at_call 25; (with_reducible refine (addElem_impl k p n _ _ _ _ x3 (r2.ints.ext g3) (r3.ints.ext (Ext.refl _))).mono ?_); rintro e4 x4 ⟨t4, rfl, r4, g4⟩; have c4 : Ext w4 x4 := c3.trans g4; have b4_0 := c4.cell i0; have b4_1 := c4.cell i1; have b4_2 := c4.cell i2) | (go_at_call 42; (with_reducible refine (ints_same _ _ _ _ x4 (r1.ints.ext (g2.trans (g3.trans g4))) (r4.ints.ext (Ext.refl _)) HL.out.add).mono ?_); rintro e5 u5 ⟨rfl, rfl⟩) | (go_at_call 47; (with_reducible refine (countElem_impl k p n (a * b) (by omega) x4).mono ?_); rintro e6 x6 ⟨t6, rfl, r6, g6⟩; have c6 : Ext w4 x6 := c4.trans g6; have b6_0 := c6.cell i0; have b6_1 := c6.cell i1; have b6_2 := c6.cell i2) | (go_at_call 47; (with_reducible refine (countElem_impl k p n (a) (by omega) x6).mono ?_); rintro e7 x7 ⟨t7, rfl, r7, g7⟩; have c7 : Ext w4 x7 := c6.trans g7; have b7_0 := c7.cell i0; have b7_1 := c7.cell i1; have b7_2 := c7.cell i2) | (go_at_call 47; (with_reducible refine (countElem_impl k p n (b) (by omega) x7).mono ?_); rintro e8 x8 ⟨t8, rfl, r8, g8⟩; have c8 : Ext w4 x8 := c7.trans g8; have b8_0 := c8.cell i0; have b8_1 := c8.cell i1; have b8_2 := c8.cell i2) | (go_at_call 28; (with_reducible refine (mulElem_impl k p n _ _ _ _ x8 (r7.ints.ext g8) (r8.ints.ext (Ext.refl _))).mono ?_); rintro e9 x9 ⟨t9, rfl, r9, g9⟩; have c9 : Ext w4 x9 := c8.trans g9; have b9_0 := c9.cell i0; have b9_1 := c9.cell i1; have b9_2 := c9.cell i2) | (go_at_call 42; (with_reducible refine (ints_same _ _ _ _ x9 (r6.ints.ext (g7.trans (g8.trans g9))) (r9.ints.ext (Ext.refl _)) HL.out.mul).mono ?_); rintro e10 u10 ⟨rfl, rfl⟩) | (go_at_call 32; (with_reducible refine (powElem_impl k p n _ (a + b) x x9 (p2.ints.ext c9) (by omega)).mono ?_); rintro e11 x11 ⟨t11, rfl, r11, g11⟩; have c11 : Ext w4 x11 := c9.trans g11; have b11_0 := c11.cell i0; have b11_1 := c11.cell i1; have b11_2 := c11.cell i2) | (go_at_call 32; (with_reducible refine (powElem_impl k p n _ (a) x x11 (p2.ints.ext c11) (by omega)).mono ?_); rintro e12 x12 ⟨t12, rfl, r12, g12⟩; have c12 : Ext w4 x12 := c11.trans g12; have b12_0 := c12.cell i0; have b12_1 := c12.cell i1; have b12_2 := c12.cell i2) | (go_at_call 32; (with_reducible refine (powElem_impl k p n _ (b) x x12 (p2.ints.ext c12) (by omega)).mono ?_); rintro e13 x13 ⟨t13, rfl, r13, g13⟩; have c13 : Ext w4 x13 := c12.trans g13; have b13_0 := c13.cell i0; have b13_1 := c13.cell i1; have b13_2 := c13.cell i2) | (go_at_call 28; (with_reducible refine (mulElem_impl k p n _ _ _ _ x13 (r12.ints.ext g13) (r13.ints.ext (Ext.refl _))).mono ?_); rintro e14 x14 ⟨t14, rfl, r14, g14⟩; have c14 : Ext w4 x14 := c13.trans g14; have b14_0 := c14.cell i0; have b14_1 := c14.cell i1; have b14_2 := c14.cell i2) | (go_at_call 42; (with_reducible refine (ints_same _ _ _ _ x14 (r11.ints.ext (g12.trans (g13.trans g14))) (r14.ints.ext (Ext.refl _)) HL.out.pow).mono ?_); rintro e15 u15 ⟨rfl, rfl⟩) | (go_at_call 32; (with_reducible refine (powElem_impl k p n _ (1) x x14 (p2.ints.ext c14) (by omega)).mono ?_); rintro e16 x16 ⟨t16, rfl, r16, g16⟩; have c16 : Ext w4 x16 := c14.trans g16; have b16_0 := c16.cell i0; have b16_1 := c16.cell i1; have b16_2 := c16.cell i2) | (go_at_call 42; (with_reducible refine (ints_same _ _ _ _ x16 (r16.ints.ext (Ext.refl _)) (p2.ints.ext c16) HL.out.one).mono ?_); rintro e17 u17 ⟨rfl, rfl⟩))
  go_wp2
  go_ret
  exact ⟨rfl, E4.trans c16⟩
end Go.Proofs.Ytlmidcclcnehnaa
