/- The law 'FnExactParseTensor', walked. -/
import Derived.Test.YtodooalhbcoihaaGreatDoorQBase
import Derived.Test.YtodooalhbcoihaaGreatDoorQPTenSW
namespace Go.Proofs.YtodooalhbcoihaaGreatDoor
open Go.RowKit
set_option linter.unusedSimpArgs false
set_option linter.unusedVariables false
open Go.Lib

theorem TP.short {k p n : Int} {s : List UInt8} {L D X : List Int} {b : Bool} (h : TP k p n s L D X b) : L.length ≤ 12 ∧ D.length ≤ 12 ∧ X.length ≤ 30000 := by
  rcases h.out with ⟨_, h1, _⟩ | ⟨_, rfl, rfl, rfl, _⟩
  · have hr := tensOk_ring h1
    have ht := (tensOk_iff hr).1 h1
    obtain ⟨P, W, _, _, _, hP, _, hW, hX⟩ := ht.nat hr
    have := ht.ax.rank; have := ht.ax.len
    have : P * W ≤ 4096 * 6 := Nat.mul_le_mul hP hW
    omega
  · simp
set_option maxRecDepth 100000 in
set_option maxHeartbeats 2000000 in
theorem walkFnExactParseTensor (k p n : Int) (s : ByteArray) (w : World) (hT : AllV w) (hs : s.size ≤ maxLen) :
    Calls Tryz.prog 4 #[ringV k p n, .string s] w fun e w' => e = .returned (.bool true) ∧ Ext w w' := by
  have hs' : s.size ≤ 9223372036854775807 := hs
  clear hs
  by_cases hbig : 1048576 < s.size
  · go_enter Tryz.func4, Tryz.ntmps4
    go_wp2
    go_ret
    exact ⟨rfl, (by repeat' (first | (with_reducible exact Ext.refl _) | (with_reducible assumption) | (with_reducible apply Ext.alloc) | (with_reducible apply Ext.drew) | (with_reducible apply Ext.drewN) | (refine Ext.setAt ?_ (by omega) _ _) | (refine Ext.trans ?_ (by assumption))))⟩
  have hkk : ∀ b : Bool, (b != b) = false := by decide
  have HKK := Lib.hid hkk
  clear hkk
  go_enter Tryz.func4, Tryz.ntmps4
  go_wp2_with fail
  refine (toRing_any _ _ _ _).mono ?_; rintro e1 w1 ⟨rfl, h1⟩
  have E1 : Ext w w1 := (by repeat' (first | (with_reducible exact Ext.refl _) | (with_reducible assumption) | (with_reducible apply Ext.alloc) | (with_reducible apply Ext.drew) | (with_reducible apply Ext.drewN) | (refine Ext.setAt ?_ (by omega) _ _) | (refine Ext.trans ?_ (by assumption))))
  have BA1 : Blk w1 w.heap.size 43 [.int .i64 k, .int .i64 p, .int .i64 n] := Blk.ext (w' := w1) (Blk.new w #[.int .i64 k, .int .i64 p, .int .i64 n] 43) h1
  clear h1
  go_wp2_with fail
  refine (parseTensor_spec k p n s _ (by omega)).mono ?_; rintro e2 w2 ⟨⟨v2, L, D, X, b, rfl, hrp, o2, h2⟩⟩
  obtain ⟨p1, n1, c1, p2, n2, c2, p3, n3, c3, rfl⟩ := o2.shape
  have BA2 := BA1.ext h2
  have a0 := BA2.cell (j := 0) rfl; have a1 := BA2.cell (j := 1) rfl; have a2 := BA2.cell (j := 2) rfl
  have al := BA2.lt
  obtain ⟨hsL, hsD, hsX⟩ := hrp.short
  have HRP := Lib.hid hrp; clear hrp
  have hok := HKK.out b
  go_wp2_with fail
  refine (toRing_any _ _ _ _).mono ?_; rintro e3 w3 ⟨rfl, h3⟩
  have E23 : Ext w2 w3 := (by repeat' (first | (with_reducible exact Ext.refl _) | (with_reducible assumption) | (with_reducible apply Ext.alloc) | (with_reducible apply Ext.drew) | (with_reducible apply Ext.drewN) | (refine Ext.setAt ?_ (by omega) _ _) | (refine Ext.trans ?_ (by assumption))))
  have BA3 := BA2.ext E23
  have BW3 : Blk w3 w2.heap.size 29 [.slice p1 n1 c1, .slice p2 n2 c2, .slice p3 n3 c3] := Blk.ext (w' := w3) (Blk.new w2 #[.slice p1 n1 c1, .slice p2 n2 c2, .slice p3 n3 c3] 29) h3
  clear h3 a0 a1 a2 al
  go_wp2_with fail
  refine (parseTensor_impl k p n s _ (by omega) (hT.ext (E1.trans (h2.trans E23)))).mono ?_; rintro e4 w4 ⟨⟨v4, L', D', X', b', rfl, hrp', o4, h4⟩⟩
  obtain ⟨rfl, rfl, rfl, rfl⟩ := HRP.out.one hrp'
  clear hrp'
  obtain ⟨q1, m1, d1, q2, m2, d2, q3, m3, d3, rfl⟩ := o4.shape
  have BA4 := BA3.ext h4; have BW4 := BW3.ext h4
  have y0 := BW4.cell (j := 0) rfl; have y1 := BW4.cell (j := 1) rfl; have y2 := BW4.cell (j := 2) rfl
  have yl := BW4.lt
  go_wp2_with fail
  refine (eqTensor_any _ _ L D X _ (o4.tens.ext (by repeat' (first | (with_reducible exact Ext.refl _) | (with_reducible assumption) | (with_reducible apply Ext.alloc) | (with_reducible apply Ext.drew) | (with_reducible apply Ext.drewN) | (refine Ext.setAt ?_ (by omega) _ _) | (refine Ext.trans ?_ (by assumption))))) (o2.tens.ext (E23.trans (h4.trans (by repeat' (first | (with_reducible exact Ext.refl _) | (with_reducible assumption) | (with_reducible apply Ext.alloc) | (with_reducible apply Ext.drew) | (with_reducible apply Ext.drewN) | (refine Ext.setAt ?_ (by omega) _ _) | (refine Ext.trans ?_ (by assumption)))))))).mono ?_; rintro e5 w5 ⟨rfl, h5⟩
  have E45 : Ext w4 w5 := (by repeat' (first | (with_reducible exact Ext.refl _) | (with_reducible assumption) | (with_reducible apply Ext.alloc) | (with_reducible apply Ext.drew) | (with_reducible apply Ext.drewN) | (refine Ext.setAt ?_ (by omega) _ _) | (refine Ext.trans ?_ (by assumption))))
  have BG5 : Blk w5 w4.heap.size 29 [.slice q1 m1 d1, .slice q2 m2 d2, .slice q3 m3 d3] := Blk.ext (w' := w5) (Blk.new w4 #[.slice q1 m1 d1, .slice q2 m2 d2, .slice q3 m3 d3] 29) h5
  clear h5 y0 y1 y2 yl
  have z0 := BG5.cell (j := 0) rfl; have z1 := BG5.cell (j := 1) rfl; have z2 := BG5.cell (j := 2) rfl
  have zl := BG5.lt
  have s45 := E45.size
  have s34 := h4.size
  go_wp2_with fail
  refine (markTensor_any w3.heap.size _ L D X 1 w4 _ o4 (o4.ext E45) s45 (by omega) (by omega)).mono ?_; rintro e6 w6 ⟨rfl, o6, T6⟩
  have E36 : Ext w3 w6 := (h4.trans E45).turn T6 (Nat.le_refl _)
  have BG6 := BG5.block (T6.block _ BG5.lt (.inr (Nat.le_refl _)))
  clear z0 z1 z2 zl
  have z0 := BG6.cell (j := 0) rfl; have z1 := BG6.cell (j := 1) rfl; have z2 := BG6.cell (j := 2) rfl
  have zl := BG6.lt
  go_wp2_with fail
  refine (heldTensor_any _ L.length D.length X.length 1 _ o6.tens (by omega) (by omega)).mono ?_; rintro e7 w7 ⟨rfl, h7⟩
  have E37 := E36.trans h7
  have BG7 := BG6.ext h7
  clear z0 z1 z2 zl
  have BA7 := BA3.ext E37
  have a0 := BA7.cell (j := 0) rfl; have a1 := BA7.cell (j := 1) rfl; have a2 := BA7.cell (j := 2) rfl
  have al := BA7.lt
  go_wp2_with fail
  refine (toRing_any _ _ _ _).mono ?_; rintro e8 w8 ⟨rfl, h8⟩
  have E38 := E37.trans h8
  clear a0 a1 a2 al
  go_wp2_with fail
  refine (parseTensor_impl k p n s _ (by omega) (hT.ext (E1.trans (h2.trans (E23.trans E38))))).mono ?_; rintro e9 w9 ⟨⟨v9, L', D', X', b', rfl, hrp', o9, h9⟩⟩
  obtain ⟨rfl, rfl, rfl, rfl⟩ := HRP.out.one hrp'
  clear hrp'
  obtain ⟨u1, r1, f1, u2, r2, f2, u3, r3, f3, rfl⟩ := o9.shape
  have E39 := E38.trans h9
  have BW9 := BW3.ext E39
  have BG9 := (BG7.ext h8).ext h9
  have y0 := BW9.cell (j := 0) rfl; have y1 := BW9.cell (j := 1) rfl; have y2 := BW9.cell (j := 2) rfl
  have yl := BW9.lt
  go_wp2_with fail
  refine (eqTensor_any _ _ L D X _ (o9.tens.ext (by repeat' (first | (with_reducible exact Ext.refl _) | (with_reducible assumption) | (with_reducible apply Ext.alloc) | (with_reducible apply Ext.drew) | (with_reducible apply Ext.drewN) | (refine Ext.setAt ?_ (by omega) _ _) | (refine Ext.trans ?_ (by assumption))))) (o2.tens.ext (E23.trans (E39.trans (by repeat' (first | (with_reducible exact Ext.refl _) | (with_reducible assumption) | (with_reducible apply Ext.alloc) | (with_reducible apply Ext.drew) | (with_reducible apply Ext.drewN) | (refine Ext.setAt ?_ (by omega) _ _) | (refine Ext.trans ?_ (by assumption)))))))).mono ?_; rintro e10 w10 ⟨rfl, h10⟩
  have E9 : Ext w9 w10 := (by repeat' (first | (with_reducible exact Ext.refl _) | (with_reducible assumption) | (with_reducible apply Ext.alloc) | (with_reducible apply Ext.drew) | (with_reducible apply Ext.drewN) | (refine Ext.setAt ?_ (by omega) _ _) | (refine Ext.trans ?_ (by assumption))))
  have BG10 := BG9.ext E9
  clear y0 y1 y2 yl
  have z0 := BG10.cell (j := 0) rfl; have z1 := BG10.cell (j := 1) rfl; have z2 := BG10.cell (j := 2) rfl
  have zl := BG10.lt
  go_wp2_with fail
  refine (heldTensor_any _ L.length D.length X.length 1 _ (o6.tens.ext (h7.trans (h8.trans (h9.trans E9)))) (by omega) (by omega)).mono ?_; rintro e11 w11 ⟨rfl, h11⟩
  go_wp2
  go_ret
  exact ⟨rfl, E1.trans (h2.trans (E23.trans (E39.trans (E9.trans h11))))⟩
end Go.Proofs.YtodooalhbcoihaaGreatDoor
