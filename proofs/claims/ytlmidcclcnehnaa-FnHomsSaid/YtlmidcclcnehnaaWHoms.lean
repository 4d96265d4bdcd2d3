/- The law 'FnHoms', walked. -/
import Derived.Test.YtlmidcclcnehnaaAlgH
import Derived.Test.YtlmidcclcnehnaaDrawM
import Derived.Test.YtlmidcclcnehnaaMulW
import Derived.Deep.RegionHeld3
namespace Go.Proofs.Ytlmidcclcnehnaa
open Go.RowKit
set_option linter.unusedSimpArgs false
set_option linter.unusedVariables false

/-- What the law compares. -/
structure HomLaws (fk fp fn tk tp tn hk ha : Int) (x y : List Int) : Prop where
  ok : elemOk tk tp tn (homOf fk fp fn tk tp tn hk ha x) = true
  zero : homOf fk fp fn tk tp tn hk ha (zeroOf fk fp fn) = zeroOf tk tp tn
  one : homOf fk fp fn tk tp tn hk ha (oneOf fk fp fn) = oneOf tk tp tn
  add : homOf fk fp fn tk tp tn hk ha (addOf fk fp fn x y) = addOf tk tp tn (homOf fk fp fn tk tp tn hk ha x) (homOf fk fp fn tk tp tn hk ha y)
  mul : homOf fk fp fn tk tp tn hk ha (mulOf fk fp fn x y) = mulOf tk tp tn (homOf fk fp fn tk tp tn hk ha x) (homOf fk fp fn tk tp tn hk ha y)
theorem hom_laws {fk fp fn tk tp tn hk ha : Int} {x y : List Int} (h : homOk fk fp fn tk tp tn hk ha = true) (hx : rawOk fk fp fn x = true) (hy : rawOk fk fp fn y = true) : HomLaws fk fp fn tk tp tn hk ha x y := by
  have K := keeps_all h
  obtain ⟨hr, hr2, _⟩ := homOk_parts h
  have e : ∀ z, rawOk fk fp fn z = true → homOf fk fp fn tk tp tn hk ha z = homL fk fp tk tp tn hk ha z := fun z hz => homOf_yes h (by rw [elemOk_yes hr]; exact hz)
  refine ⟨?_, ?_, ?_, ?_, ?_⟩
  · rw [e x hx, elemOk_yes hr2]; exact K.ok x hx
  · rw [zeroOf_yes hr, e _ (rawOk_zero hr), K.zero, zeroOf_yes hr2]
  · rw [oneOf_yes hr, e _ (rawOk_one hr), K.one, oneOf_yes hr2]
  · rw [addOf_raw hr hx hy, e _ (rawOk_add hr hx hy), K.add x y hx hy, e x hx, e y hy, addOf_raw hr2 (K.ok x hx) (K.ok y hy)]
  · rw [mulOf_raw hr hx hy, e _ (rawOk_mul hr hx hy), K.mul x y hx hy, e x hx, e y hy, mulOf_raw hr2 (K.ok x hx) (K.ok y hy)]
set_option maxRecDepth 100000 in
set_option maxHeartbeats 8000000 in
theorem walkFnHoms (v : Value) (l : List Int) (w : World) (hl : ByteS w v l) (hall : ∀ x ∈ l, 0 ≤ x ∧ x ≤ 255) :
    Calls Try.prog 14 #[v] w fun e w' => e = .returned (.bool true) ∧ Ext w w' := by
  obtain ⟨ca, cap, rfl, hc1, hc2⟩ := hl.val
  by_cases big : 1048576 < l.length
  · go_enter Try.func14, Try.ntmps14
    go_wp2
    go_ret
    exact ⟨rfl, (by repeat' (first | (with_reducible exact Ext.refl _) | (with_reducible assumption) | (with_reducible apply Ext.alloc) | (with_reducible apply Ext.drew) | (with_reducible apply Ext.drewN) | (refine Ext.setAt ?_ (by omega) _ _) | (refine Ext.trans ?_ (by assumption))))⟩
  have hC : Code w (.slice ca l.length cap) l := ⟨hl, hall, by omega⟩
  have HALL := Lib.hid hall; clear hall
  go_enter Try.func14, Try.ntmps14
  go_wp2_with fail
  refine (makeHom_any _ l 0 _ hC (by omega)).mono ?_; rintro e1 w1 ⟨fk, fp, fn, tk, tp, tn, hk, ha, rfl, ⟨hd, hh⟩, h1⟩
  have HR := Lib.hid (drawn_ok hd)
  have HH := Lib.hid hh
  clear hd hh
  obtain ⟨WA, hWA⟩ : ∃ WA, ((w1.alloc (.cells #[.int .i64 fk, .int .i64 fp, .int .i64 fn] 28)).alloc (.cells #[.int .i64 tk, .int .i64 tp, .int .i64 tn] 28)).alloc (.cells #[.int .i64 hk, .int .i64 ha] 68) = WA := ⟨_, rfl⟩
  have EA : Ext w1 WA := by rw [← hWA]; exact (by repeat' (first | (with_reducible exact Ext.refl _) | (with_reducible assumption) | (with_reducible apply Ext.alloc) | (with_reducible apply Ext.drew) | (with_reducible apply Ext.drewN) | (refine Ext.setAt ?_ (by omega) _ _) | (refine Ext.trans ?_ (by assumption))))
  have k0 : WA.cell? ⟨w1.heap.size, 0, none⟩ = some (.int .i64 fk) := by rw [← hWA]; simp [go_sem]
  have k1 : WA.cell? ⟨w1.heap.size, 1, none⟩ = some (.int .i64 fp) := by rw [← hWA]; simp [go_sem]
  have k2 : WA.cell? ⟨w1.heap.size, 2, none⟩ = some (.int .i64 fn) := by rw [← hWA]; simp [go_sem]
  have k3 : WA.cell? ⟨w1.heap.size + 1, 0, none⟩ = some (.int .i64 tk) := by rw [← hWA]; simp [go_sem]
  have k4 : WA.cell? ⟨w1.heap.size + 1, 1, none⟩ = some (.int .i64 tp) := by rw [← hWA]; simp [go_sem]
  have k5 : WA.cell? ⟨w1.heap.size + 1, 2, none⟩ = some (.int .i64 tn) := by rw [← hWA]; simp [go_sem]
  have k6 : WA.cell? ⟨w1.heap.size + 1 + 1, 0, none⟩ = some (.int .i64 hk) := by rw [← hWA]; simp [go_sem]
  have k7 : WA.cell? ⟨w1.heap.size + 1 + 1, 1, none⟩ = some (.int .i64 ha) := by rw [← hWA]; simp [go_sem]
  have HWA := Lib.hid hWA; clear hWA
  have CA := (hC.ext h1).ext EA
  have EW := h1.trans EA
  go_wp2_with fail
  rw [HWA.out]
  refine (makeElem_any _ l 10 fk fp fn HR.out _ CA (by omega)).mono ?_; rintro e2 w2 ⟨v2, x, rfl, o2, x2, h2⟩
  have X2 := Lib.hid x2; clear x2
  have m0 := h2.cell k0
  have m1 := h2.cell k1
  have m2 := h2.cell k2
  have m3 := h2.cell k3
  have m4 := h2.cell k4
  have m5 := h2.cell k5
  have m6 := h2.cell k6
  have m7 := h2.cell k7
  clear k0 k1 k2 k3 k4 k5 k6 k7
  go_wp2_with fail
  refine (makeElem_any _ l 20 fk fp fn HR.out _ (CA.ext h2) (by omega)).mono ?_; rintro e3 w3 ⟨v3, y, rfl, o3, x3, h3⟩
  have L := hom_laws HH.out X2.out x3
  have HL := Lib.hid L; clear L x3
  have k0 := h3.cell m0
  have k1 := h3.cell m1
  have k2 := h3.cell m2
  have k3 := h3.cell m3
  have k4 := h3.cell m4
  have k5 := h3.cell m5
  have k6 := h3.cell m6
  have k7 := h3.cell m7
  clear m0 m1 m2 m3 m4 m5 m6 m7
  go_wp2_with fail
  refine (applyHom_impl fk fp fn tk tp tn hk ha _ x _ (o2.ints.ext h3)).mono ?_; rintro e4 w4 ⟨v4, rfl, o4, h4⟩
  have m0 := h4.cell k0
  have m1 := h4.cell k1
  have m2 := h4.cell k2
  have m3 := h4.cell k3
  have m4 := h4.cell k4
  have m5 := h4.cell k5
  have m6 := h4.cell k6
  have m7 := h4.cell k7
  clear k0 k1 k2 k3 k4 k5 k6 k7
  go_wp2_with fail
  refine (applyHom_impl fk fp fn tk tp tn hk ha _ y _ (o3.ints.ext h4)).mono ?_; rintro e5 w5 ⟨v5, rfl, o5, h5⟩
  have i0 := h5.cell m0
  have i1 := h5.cell m1
  have i2 := h5.cell m2
  have i3 := h5.cell m3
  have i4 := h5.cell m4
  have i5 := h5.cell m5
  have i6 := h5.cell m6
  have i7 := h5.cell m7
  clear m0 m1 m2 m3 m4 m5 m6 m7
  have p2 := o2.ext (h3.trans (h4.trans h5))
  have p3 := o3.ext (h4.trans h5)
  have o4' := o4.ext h5
  have E5 := EW.trans (h2.trans (h3.trans (h4.trans h5)))
  clear o2 o3 o4 h2 h3 h4 h5 EW CA h1 EA
  go_wp2_with fail
  try simp only [List.append]
  have D0 : Ext w5 w5.drew := (Ext.refl _).drew
  go_region_held3 (fun w' => w'.cell? ⟨w1.heap.size, 0, none⟩ = some (.int .i64 fk) ∧ w'.cell? ⟨w1.heap.size, 1, none⟩ = some (.int .i64 fp) ∧ w'.cell? ⟨w1.heap.size, 2, none⟩ = some (.int .i64 fn) ∧ w'.cell? ⟨w1.heap.size + 1, 0, none⟩ = some (.int .i64 tk) ∧ w'.cell? ⟨w1.heap.size + 1, 1, none⟩ = some (.int .i64 tp) ∧ w'.cell? ⟨w1.heap.size + 1, 2, none⟩ = some (.int .i64 tn) ∧ w'.cell? ⟨w1.heap.size + 1 + 1, 0, none⟩ = some (.int .i64 hk) ∧ w'.cell? ⟨w1.heap.size + 1 + 1, 1, none⟩ = some (.int .i64 ha))
    (refine ⟨?_, ?_, ?_, ?_, ?_, ?_, ?_, ?_⟩ <;> first | assumption | exact ((Ext.refl _).alloc _).cell (by assumption) | (simp [*]; done))
    (first | (go_at_call 62; (with_reducible refine (homOk_impl fk fp fn tk tp tn hk ha w5.drew).mono ?_); rintro e1 x1 ⟨rfl, q1⟩; have g1 : Ext w5 x1 := D0.trans q1; have c1 : Ext w5 x1 := g1; have b1_0 := c1.cell i0; have b1_1 := c1.cell i1; have b1_2 := c1.cell i2; have b1_3 := c1.cell i3; have b1_4 := c1.cell i4; have b1_5 := c1.cell i5; have b1_6 := c1.cell i6; have b1_7 := c1.cell i7; rw [HH.out]) | (go_at_call 41; (with_reducible refine (elemOk_impl tk tp tn _ _ x1 (o4'.ints.ext c1)).mono ?_); rintro e2 x2 ⟨rfl, g2⟩; have c2 : Ext w5 x2 := c1.trans g2; have b2_0 := c2.cell i0; have b2_1 := c2.cell i1; have b2_2 := c2.cell i2; have b2_3 := c2.cell i3; have b2_4 := c2.cell i4; have b2_5 := c2.cell i5; have b2_6 := c2.cell i6; have b2_7 := c2.cell i7; rw [HL.out.ok]) | (go_at_call 43; (with_reducible refine (zeroOf_impl fk fp fn x2).mono ?_); rintro e3 x3 ⟨t3, rfl, r3, g3⟩; have c3 : Ext w5 x3 := c2.trans g3; have b3_0 := c3.cell i0; have b3_1 := c3.cell i1; have b3_2 := c3.cell i2; have b3_3 := c3.cell i3; have b3_4 := c3.cell i4; have b3_5 := c3.cell i5; have b3_6 := c3.cell i6; have b3_7 := c3.cell i7) | (go_at_call 58; (with_reducible refine (applyHom_impl fk fp fn tk tp tn hk ha _ _ x3 (r3.ints.ext (Ext.refl _))).mono ?_); rintro e4 x4 ⟨t4, rfl, r4, g4⟩; have c4 : Ext w5 x4 := c3.trans g4; have b4_0 := c4.cell i0; have b4_1 := c4.cell i1; have b4_2 := c4.cell i2; have b4_3 := c4.cell i3; have b4_4 := c4.cell i4; have b4_5 := c4.cell i5; have b4_6 := c4.cell i6; have b4_7 := c4.cell i7) | (go_at_call 43; (with_reducible refine (zeroOf_impl tk tp tn x4).mono ?_); rintro e5 x5 ⟨t5, rfl, r5, g5⟩; have c5 : Ext w5 x5 := c4.trans g5; have b5_0 := c5.cell i0; have b5_1 := c5.cell i1; have b5_2 := c5.cell i2; have b5_3 := c5.cell i3; have b5_4 := c5.cell i4; have b5_5 := c5.cell i5; have b5_6 := c5.cell i6; have b5_7 := c5.cell i7) | (go_at_call 42; (with_reducible refine (ints_same _ _ _ _ x5 (r4.ints.ext g5) (r5.ints.ext (Ext.refl _)) HL.out.zero).mono ?_); rintro e6 u6 ⟨rfl, rfl⟩) | (go_at_call 44; (with_reducible refine (oneOf_impl fk fp fn x5).mono ?_); rintro e7 x7 ⟨t7, rfl, r7, g7⟩; have c7 : Ext w5 x7 := c5.trans g7; have b7_0 := c7.cell i0; have b7_1 := c7.cell i1; have b7_2 := c7.cell i2; have b7_3 := c7.cell i3; have b7_4 := c7.cell i4; have b7_5 := c7.cell i5; have b7_6 := c7.cell i6; have b7_7 := c7.cell i7) | (go_at_call 58; (with_reducible refine (applyHom_impl fk fp fn tk tp tn hk ha _ _ x7 (r7.ints.ext (Ext.refl _))).mono ?_); rintro e8 x8 ⟨t8, rfl, r8, g8⟩; have c8 : Ext w5 x8 := c7.trans g8; have b8_0 := c8.cell i0; have b8_1 := c8.cell i1; have b8_2 := c8.cell i2; have b8_3 := c8.cell i3; have b8_4 := c8.cell i4; have b8_5 := c8.cell i5; have b8_6 := c8.cell i6; have b8_7 := c8.cell i7) | (go_at_call 44; (with_reducible refine (oneOf_impl tk tp tn x8).mono ?_); rintro e9 x9 ⟨t9, rfl, r9, g9⟩; have c9 : Ext w5 x9 := c8.trans g9; have b9_0 := c9.cell i0; have b9_1 := c9.cell i1; have b9_2 := c9.cell i2; have b9_3 := c9.cell i3; have b9_4 := c9.cell i4; have b9_5 := c9.cell i5; have b9_6 := c9.cell i6; have b9_7 := c9.cell i7) | (go_at_call 42; (with_reducible refine (ints_same _ _ _ _ x9 (r8.ints.ext g9) (r9.ints.ext (Ext.refl _)) HL.out.one).mono ?_); rintro e10 u10 ⟨rfl, rfl⟩) | (go_at_call 25; (with_reducible refine (addElem_impl fk fp fn _ _ _ _ x9 (p2.ints.ext c9) (p3.ints.ext c9)).mono ?_); rintro e11 x11 ⟨t11, rfl, r11, g11⟩; have c11 : Ext w5 x11 := c9.trans g11; have b11_0 := c11.cell i0; have b11_1 := c11.cell i1; have b11_2 := c11.cell i2; have b11_3 := c11.cell i3; have b11_4 := c11.cell i4; have b11_5 := c11.cell i5; have b11_6 := c11.cell i6; have b11_7 := c11.cell i7) | (go_at_call 58; (with_reducible refine (applyHom_impl fk fp fn tk tp tn hk ha _ _ x11 (r11.ints.ext (Ext.refl _))).mono ?_); rintro e12 x12 ⟨t12, rfl, r12, g12⟩; have c12 : Ext w5 x12 := c11.trans g12; have b12_0 := c12.cell i0; have b12_1 := c12.cell i1; have b12_2 := c12.cell i2; have b12_3 := c12.cell i3; have b12_4 := c12.cell i4; have b12_5 := c12.cell i5; have b12_6 := c12.cell i6; have b12_7 := c12.cell i7) | (go_at_call 25; (with_reducible refine (addElem_impl tk tp tn _ _ _ _ x12 (o4'.ints.ext c12) (o5.ints.ext c12)).mono ?_); rintro e13 x13 ⟨t13, rfl, r13, g13⟩; have c13 : Ext w5 x13 := c12.trans g13; have b13_0 := c13.cell i0; have b13_1 := c13.cell i1; have b13_2 := c13.cell i2; have b13_3 := c13.cell i3; have b13_4 := c13.cell i4; have b13_5 := c13.cell i5; have b13_6 := c13.cell i6; have b13_7 := c13.cell i7) | (go_at_call 42; (with_reducible refine (ints_same _ _ _ _ x13 (r12.ints.ext g13) (r13.ints.ext (Ext.refl _)) HL.out.add).mono ?_); rintro e14 u14 ⟨rfl, rfl⟩) | (go_at_call 28; (with_reducible refine (mulElem_impl fk fp fn _ _ _ _ x13 (p2.ints.ext c13) (p3.ints.ext c13)).mono ?_); rintro e15 x15 ⟨t15, rfl, r15, g15⟩; have c15 : Ext w5 x15 := c13.trans g15; have b15_0 := c15.cell i0; have b15_1 := c15.cell i1; have b15_2 := c15.cell i2; have b15_3 := c15.cell i3; have b15_4 := c15.cell i4; have b15_5 := c15.cell i5; have b15_6 := c15.cell i6; have b15_7 := c15.cell i7) | (go_at_call 58; (with_reducible refine (applyHom_impl fk fp fn tk tp tn hk ha _ _ x15 (r15.ints.ext (Ext.refl _))).mono ?_); rintro e16 x16 ⟨t16, rfl, r16, g16⟩; have c16 : Ext w5 x16 := c15.trans g16; have b16_0 := c16.cell i0; have b16_1 := c16.cell i1; have b16_2 := c16.cell i2; have b16_3 := c16.cell i3; have b16_4 := c16.cell i4; have b16_5 := c16.cell i5; have b16_6 := c16.cell i6; have b16_7 := c16.cell i7) | (go_at_call 28; (with_reducible refine (mulElem_impl tk tp tn _ _ _ _ x16 (o4'.ints.ext c16) (o5.ints.ext c16)).mono ?_); rintro e17 x17 ⟨t17, rfl, r17, g17⟩; have c17 : Ext w5 x17 := c16.trans g17; have b17_0 := c17.cell i0; have b17_1 := c17.cell i1; have b17_2 := c17.cell i2; have b17_3 := c17.cell i3; have b17_4 := c17.cell i4; have b17_5 := c17.cell i5; have b17_6 := c17.cell i6; have b17_7 := c17.cell i7) | (go_at_call 42; (with_reducible refine (ints_same _ _ _ _ x17 (r16.ints.ext g17) (r17.ints.ext (Ext.refl _)) HL.out.mul).mono ?_); rintro e18 u18 ⟨rfl, rfl⟩))
  go_wp2
  go_ret
  exact ⟨rfl, E5.trans c17⟩
end Go.Proofs.Ytlmidcclcnehnaa
