/- TensorOk of the reference. -/
import Derived.Test.YtlgjddgajdjllaaGreatDoorQTokW
set_option linter.unusedSimpArgs false
set_option linter.unusedVariables false
namespace Go.Proofs.YtlgjddgajdjllaaGreatDoor
open Go.RowKit
set_option maxRecDepth 100000 in
set_option maxHeartbeats 1000000 in
theorem tensorOk_spec (k p n : Int) (v : Value) (L D X : List Int) (w : World) (hv : TenS w v L D X) : Calls Tryz.prog 92 #[ringV k p n, v] w fun e w' =>
 e = .returned (.bool (tensOk k p n L D X)) ∧ Ext w w' := by
 have hv0 := hv
 obtain ⟨p1, n1, c1, p2, n2, c2, p3, n3, c3, rfl⟩ := hv.shape
 obtain ⟨_, _, _, hvv, hL, hD, hX⟩ := hv.val
 simp at hvv
 obtain ⟨rfl, rfl, rfl⟩ := hvv
 obtain ⟨_, _, e3, _, _⟩ := hX.val
 simp at e3
 obtain ⟨rfl, rfl, rfl⟩ := e3
 clear hv
 obtain ⟨s, hse⟩ : ∃ s, tsize L D = s := ⟨_, rfl⟩
 have HSE := Lib.hid hse
 have start : ∀ w2, Ext ((w.alloc (.cells #[.int .i64 k, .int .i64 p, .int .i64 n] 24)).alloc (.cells #[.slice p1 n1 c1, .slice p2 n2 c2, .slice p3 X.length c3] 52)) w2 →
  Ext w w2 ∧ Blk w2 w.heap.size 24 [.int .i64 k, .int .i64 p, .int .i64 n] ∧ Blk w2 (w.heap.size + 1) 52 [.slice p1 n1 c1, .slice p2 n2 c2, .slice p3 X.length c3] := fun w2 h2 => by
  refine ⟨(by repeat' (first | (with_reducible first | exact Ext.refl _ | assumption | apply Ext.alloc | apply Ext.drew | apply Ext.drewN) | (refine Ext.setAt ?_ (by omega) _ _) | (refine Ext.trans ?_ (by assumption)))), Blk.ext (Blk.new w #[.int .i64 k, .int .i64 p, .int .i64 n] 24) (Ext.trans ((Ext.refl _).alloc _) h2), ?_⟩
  have := (Blk.new (w.alloc (.cells #[.int .i64 k, .int .i64 p, .int .i64 n] 24)) #[.slice p1 n1 c1, .slice p2 n2 c2, .slice p3 X.length c3] 52).ext h2
  simpa using this
 have HST := Lib.hid start; clear start
 cases hr : ringOk k p n
 · have HZ := Lib.hid (tensOk_no (L := L) (D := D) (X := X) hr)
   have HR := Lib.hid hr
   clear hse hr
   go_enter Tryz.func92, Tryz.ntmps92
   go_wp2_with fail
   refine (tensorSize_spec _ L D X _ (hv0.ext (by repeat' (first | (with_reducible first | exact Ext.refl _ | assumption | apply Ext.alloc | apply Ext.drew | apply Ext.drewN) | (refine Ext.setAt ?_ (by omega) _ _) | (refine Ext.trans ?_ (by assumption)))))).mono ?_; rintro e2 w2 ⟨rfl, h2⟩; rw [HSE.out]
   obtain ⟨E2, BK, BT⟩ := HST.out w2 h2
   have i0 := BK.cell (j := 0) rfl
   have i1 := BK.cell (j := 1) rfl
   have i2 := BK.cell (j := 2) rfl
   have i3 := BT.cell (j := 2) rfl
   have D0 : Ext w2 w2.drew := (Ext.refl _).drew
   go_wp2_with fail
   refine wp_region_any (by kernel_rfl) ?_
   (try (change wpAny _ _ _ _ _ _ _ (World.drew _)))
   refine wpAny_ready (rs := [0]) (by kernel_rfl) (by simp) ?_
   refine AllReady.cons rfl (fun K hK => ?_) AllReady.nil
   go_simp
   (try (refine hK _ _ ?_; clear hK K))
   refine wpAny_ready (rs := [1]) (by kernel_rfl) (by simp) ?_
   refine AllReady.cons rfl (fun K hK => ?_) AllReady.nil
   go_simp
   go_at_call 89; (with_reducible refine (ringOk_spec _ _ _ _).mono ?_); rintro e3 w3 ⟨rfl, h3⟩; rw [HR.out]; have g3 : Ext w2 w3 := D0.trans h3
   (try go_simp)
   (try (refine hK _ _ ?_; clear hK K))
   refine wpAny_take (i := 2) (v := .bool true) rfl (by kernel_rfl) (by kernel_rfl) (by kernel_rfl) (fun _ _ _ h => h) (Or.inl ⟨by kernel_rfl, fun w => by go_simp⟩) ?_
   (try go_simp)
   refine wpAny_take (i := 3) (v := .bool true) rfl (by kernel_rfl) (by kernel_rfl) (by kernel_rfl) (fun _ _ _ h => h) (Or.inl ⟨by kernel_rfl, fun w => by go_simp⟩) ?_
   (try go_simp)
   refine wpAny_take (i := 4) (v := undef) rfl (by kernel_rfl) (by kernel_rfl) (by kernel_rfl) (fun _ _ _ h => h) (Or.inr ⟨by kernel_rfl, rfl⟩) ?_
   (try go_simp)
   refine wpAny_take (i := 5) (v := undef) rfl (by kernel_rfl) (by kernel_rfl) (by kernel_rfl) (fun _ _ _ h => h) (Or.inr ⟨by kernel_rfl, rfl⟩) ?_
   (try go_simp)
   refine wpAny_take (i := 6) (v := .bool true) rfl (by kernel_rfl) (by kernel_rfl) (by kernel_rfl) (fun _ _ _ h => h) (Or.inl ⟨by kernel_rfl, fun w => by go_simp⟩) ?_
   (try go_simp)
   refine wpAny_take (i := 7) (v := .bool true) rfl (by kernel_rfl) (by kernel_rfl) (by kernel_rfl) (fun _ _ _ h => h) (Or.inl ⟨by kernel_rfl, fun w => by go_simp⟩) ?_
   (try go_simp)
   refine wpAny_take (i := 8) (v := undef) rfl (by kernel_rfl) (by kernel_rfl) (by kernel_rfl) (fun _ _ _ h => h) (Or.inr ⟨by kernel_rfl, rfl⟩) ?_
   (try go_simp)
   refine wpAny_take (i := 9) (v := undef) rfl (by kernel_rfl) (by kernel_rfl) (by kernel_rfl) (fun _ _ _ h => h) (Or.inr ⟨by kernel_rfl, rfl⟩) ?_
   (try go_simp)
   refine wpAny_take (i := 10) (v := undef) rfl (by kernel_rfl) (by kernel_rfl) (by kernel_rfl) (fun _ _ _ h => h) (Or.inr ⟨by kernel_rfl, rfl⟩) ?_
   (try go_simp)
   refine wpAny_take (i := 11) (v := undef) rfl (by kernel_rfl) (by kernel_rfl) (by kernel_rfl) (fun _ _ _ h => h) (Or.inr ⟨by kernel_rfl, rfl⟩) ?_
   (try go_simp)
   refine wpAny_take (i := 12) (v := undef) rfl (by kernel_rfl) (by kernel_rfl) (by kernel_rfl) (fun _ _ _ h => h) (Or.inr ⟨by kernel_rfl, rfl⟩) ?_
   (try go_simp)
   refine wpAny_take (i := 13) (v := undef) rfl (by kernel_rfl) (by kernel_rfl) (by kernel_rfl) (fun _ _ _ h => h) (Or.inr ⟨by kernel_rfl, rfl⟩) ?_
   (try go_simp)
   refine wpAny_take (i := 14) (v := undef) rfl (by kernel_rfl) (by kernel_rfl) (by kernel_rfl) (fun _ _ _ h => h) (Or.inr ⟨by kernel_rfl, rfl⟩) ?_
   (try go_simp)
   refine wpAny_take (i := 15) (v := undef) rfl (by kernel_rfl) (by kernel_rfl) (by kernel_rfl) (fun _ _ _ h => h) (Or.inr ⟨by kernel_rfl, rfl⟩) ?_
   (try go_simp)
   refine wpAny_take (i := 16) (v := .bool true) rfl (by kernel_rfl) (by kernel_rfl) (by kernel_rfl) (fun _ _ _ h => h) (Or.inl ⟨by kernel_rfl, fun w => by go_simp⟩) ?_
   (try go_simp)
   refine wpAny_done (by kernel_rfl) ?_ _
   go_wp2
   go_ret
   exact ⟨ret_bool HZ.out.symm, E2.trans g3⟩
 have hf := ringOk_fit hr
 have hw := ringOk_wide hr
 have hw0 := hw.lo
 have hw1 := hw.hi
 have HR := Lib.hid hr
 by_cases ht : tsize L D = -1
 · have HZ := Lib.hid (tensOk_size (k := k) (p := p) (n := n) (X := X) ht)
   have hs0 : s < 0 := by omega
   clear hse ht hr
   go_enter Tryz.func92, Tryz.ntmps92
   go_wp2_with fail
   refine (tensorSize_spec _ L D X _ (hv0.ext (by repeat' (first | (with_reducible first | exact Ext.refl _ | assumption | apply Ext.alloc | apply Ext.drew | apply Ext.drewN) | (refine Ext.setAt ?_ (by omega) _ _) | (refine Ext.trans ?_ (by assumption)))))).mono ?_; rintro e2 w2 ⟨rfl, h2⟩; rw [HSE.out]
   obtain ⟨E2, BK, BT⟩ := HST.out w2 h2
   have i0 := BK.cell (j := 0) rfl
   have i1 := BK.cell (j := 1) rfl
   have i2 := BK.cell (j := 2) rfl
   have i3 := BT.cell (j := 2) rfl
   have D0 : Ext w2 w2.drew := (Ext.refl _).drew
   go_wp2_with fail
   refine wp_region_any (by kernel_rfl) ?_
   (try (change wpAny _ _ _ _ _ _ _ (World.drew _)))
   refine wpAny_ready (rs := [0]) (by kernel_rfl) (by simp) ?_
   refine AllReady.cons rfl (fun K hK => ?_) AllReady.nil
   go_simp
   (try (refine hK _ _ ?_; clear hK K))
   refine wpAny_ready (rs := [1]) (by kernel_rfl) (by simp) ?_
   refine AllReady.cons rfl (fun K hK => ?_) AllReady.nil
   go_simp
   go_at_call 89; (with_reducible refine (ringOk_spec _ _ _ _).mono ?_); rintro e3 w3 ⟨rfl, h3⟩; rw [HR.out]; have g3 : Ext w2 w3 := D0.trans h3
   (try go_simp)
   (try (refine hK _ _ ?_; clear hK K))
   refine wpAny_take (i := 2) (v := .bool false) rfl (by kernel_rfl) (by kernel_rfl) (by kernel_rfl) (fun _ _ _ h => h) (Or.inl ⟨by kernel_rfl, fun w => by go_simp⟩) ?_
   (try go_simp)
   refine wpAny_take (i := 3) (v := .bool false) rfl (by kernel_rfl) (by kernel_rfl) (by kernel_rfl) (fun _ _ _ h => h) (Or.inl ⟨by kernel_rfl, fun w => by go_simp⟩) ?_
   (try go_simp)
   refine wpAny_take (i := 4) (v := (.int .i64 s)) rfl (by kernel_rfl) (by kernel_rfl) (by kernel_rfl) (fun _ _ _ h => h) (Or.inl ⟨by kernel_rfl, fun w => by go_simp⟩) ?_
   (try go_simp)
   refine wpAny_take (i := 5) (v := .bool true) rfl (by kernel_rfl) (by kernel_rfl) (by kernel_rfl) (fun _ _ _ h => h) (Or.inl ⟨by kernel_rfl, fun w => by go_simp⟩) ?_
   (try go_simp)
   refine wpAny_take (i := 6) (v := .bool true) rfl (by kernel_rfl) (by kernel_rfl) (by kernel_rfl) (fun _ _ _ h => h) (Or.inl ⟨by kernel_rfl, fun w => by go_simp⟩) ?_
   (try go_simp)
   refine wpAny_take (i := 7) (v := .bool true) rfl (by kernel_rfl) (by kernel_rfl) (by kernel_rfl) (fun _ _ _ h => h) (Or.inl ⟨by kernel_rfl, fun w => by go_simp⟩) ?_
   (try go_simp)
   refine wpAny_take (i := 8) (v := undef) rfl (by kernel_rfl) (by kernel_rfl) (by kernel_rfl) (fun _ _ _ h => h) (Or.inr ⟨by kernel_rfl, rfl⟩) ?_
   (try go_simp)
   refine wpAny_take (i := 9) (v := undef) rfl (by kernel_rfl) (by kernel_rfl) (by kernel_rfl) (fun _ _ _ h => h) (Or.inr ⟨by kernel_rfl, rfl⟩) ?_
   (try go_simp)
   refine wpAny_take (i := 10) (v := undef) rfl (by kernel_rfl) (by kernel_rfl) (by kernel_rfl) (fun _ _ _ h => h) (Or.inr ⟨by kernel_rfl, rfl⟩) ?_
   (try go_simp)
   refine wpAny_take (i := 11) (v := undef) rfl (by kernel_rfl) (by kernel_rfl) (by kernel_rfl) (fun _ _ _ h => h) (Or.inr ⟨by kernel_rfl, rfl⟩) ?_
   (try go_simp)
   refine wpAny_take (i := 12) (v := undef) rfl (by kernel_rfl) (by kernel_rfl) (by kernel_rfl) (fun _ _ _ h => h) (Or.inr ⟨by kernel_rfl, rfl⟩) ?_
   (try go_simp)
   refine wpAny_take (i := 13) (v := undef) rfl (by kernel_rfl) (by kernel_rfl) (by kernel_rfl) (fun _ _ _ h => h) (Or.inr ⟨by kernel_rfl, rfl⟩) ?_
   (try go_simp)
   refine wpAny_take (i := 14) (v := undef) rfl (by kernel_rfl) (by kernel_rfl) (by kernel_rfl) (fun _ _ _ h => h) (Or.inr ⟨by kernel_rfl, rfl⟩) ?_
   (try go_simp)
   refine wpAny_take (i := 15) (v := undef) rfl (by kernel_rfl) (by kernel_rfl) (by kernel_rfl) (fun _ _ _ h => h) (Or.inr ⟨by kernel_rfl, rfl⟩) ?_
   (try go_simp)
   refine wpAny_take (i := 16) (v := .bool true) rfl (by kernel_rfl) (by kernel_rfl) (by kernel_rfl) (fun _ _ _ h => h) (Or.inl ⟨by kernel_rfl, fun w => by go_simp⟩) ?_
   (try go_simp)
   refine wpAny_done (by kernel_rfl) ?_ _
   go_wp2
   go_ret
   exact ⟨ret_bool HZ.out.symm, E2.trans g3⟩
 obtain ⟨_, hs1, hs2, _⟩ := tsize_prod ht
 have hs := (tsize_prod ht).1
 have hs0 : 0 ≤ s := by omega
 have hs9 : s ≤ 4096 := by omega
 obtain ⟨W, hW⟩ : ∃ W, ringWidth k n = W := ⟨_, rfl⟩
 rw [hW] at hw0 hw1
 have hm0 : 0 ≤ s * W := Int.mul_nonneg hs0 (by omega)
 have hm1 : s * W ≤ s * 6 := Int.mul_le_mul_of_nonneg_left hw1 hs0
 have hwr : IntKind.i64.wrap (s * W) = s * W := by rw [IntKind.wrap_i64]; omega
 have HWW := Lib.hid hW
 have hsd : decide (s < 0) = false := by rw [decide_eq_false_iff_not]; omega
 by_cases hlen : (X.length : Int) = s * W
 · have hq : ((X.length : Int) != s * W) = false := by rw [bne_eq_false_iff_eq]; exact hlen
   have HY : Hid (tensOk k p n L D X = allTo (ringTop k p n) X) := Lib.hid (tensOk_top hr ht (by rw [hse, hW, beq_iff_eq]; exact hlen))
   clear hlen ht hs hs1 hs2 hW hse hr
   go_enter Tryz.func92, Tryz.ntmps92
   go_wp2_with fail
   refine (tensorSize_spec _ L D X _ (hv0.ext (by repeat' (first | (with_reducible first | exact Ext.refl _ | assumption | apply Ext.alloc | apply Ext.drew | apply Ext.drewN) | (refine Ext.setAt ?_ (by omega) _ _) | (refine Ext.trans ?_ (by assumption)))))).mono ?_; rintro e2 w2 ⟨rfl, h2⟩; rw [HSE.out]
   obtain ⟨E2, BK, BT⟩ := HST.out w2 h2
   have i0 := BK.cell (j := 0) rfl
   have i1 := BK.cell (j := 1) rfl
   have i2 := BK.cell (j := 2) rfl
   have i3 := BT.cell (j := 2) rfl
   have D0 : Ext w2 w2.drew := (Ext.refl _).drew
   go_wp2_with fail
   first | (go_region_held3 (fun w' => w'.cell? ⟨w.heap.size, 0, none⟩ = some (.int .i64 k) ∧ w'.cell? ⟨w.heap.size, 1, none⟩ = some (.int .i64 p) ∧ w'.cell? ⟨w.heap.size, 2, none⟩ = some (.int .i64 n) ∧ w'.cell? ⟨w.heap.size + 1, 2, none⟩ = some (.slice p3 X.length c3))
    (refine ⟨?_, ?_, ?_, ?_⟩ <;> first | assumption | (simp [*]; done))
    (first | (go_at_call 89; (with_reducible refine (ringOk_spec _ _ _ _).mono ?_); rintro e3 w3 ⟨rfl, h3⟩; rw [HR.out]; have g3 : Ext w2 w3 := D0.trans h3; have j0 := g3.cell i0; have j1 := g3.cell i1; have j2 := g3.cell i2; have j3 := g3.cell i3) | (go_at_call 114; (with_reducible refine (l02Width_any _ _ _ _).mono ?_); rintro e4 w4 ⟨rfl, h4⟩; rw [HWW.out]; have g4 : Ext w2 w4 := g3.trans h4; have l0 := g4.cell i0; have l1 := g4.cell i1; have l2 := g4.cell i2; have l3 := g4.cell i3))) | fail
   all_goals
    have E4 : Ext w w4 := E2.trans g4
    have hX4 := hX.ext E4
    have BK4 := BK.ext g4
    clear i0 i1 i2 i3 j0 j1 j2 j3 l0 l1 l2
    go_wp2_with fail
    go_loopw [30] (fun i wr => ∃ j : Nat, j ≤ X.length ∧ i = .int .i64 j ∧ Hid (allTo (ringTop k p n) (X.drop j) = allTo (ringTop k p n) X) ∧ Ext w4 wr) (fun i _ => X.length - (RowKit.intOf i).toNat)
    case atStart => exact ⟨0, Nat.zero_le _, rfl, Lib.hid rfl, Ext.refl _⟩
    case round =>
     obtain ⟨j, hj, rfl, HA, hE⟩ := hrel
     have BKr := BK4.ext hE
     have r0 := BKr.cell (j := 0) rfl
     have r1 := BKr.cell (j := 1) rfl
     have r2 := BKr.cell (j := 2) rfl
     by_cases hlt : j < X.length
     · obtain ⟨b, off, x, rfl, hcell, _, hd⟩ := (hX4.ext hE).get hlt
       have HD := Lib.hid hd; clear hd
       by_cases g0 : x < 0
       · have hb : decide (0 ≤ x) = false := by simpa using g0
         go_wp2_with (first | (go_at_call 115; refine (l02Top_any _ _ _ hf _).mono ?_; rintro e5 w5 ⟨rfl, h5⟩) | (go_at_call 70; refine (in_any _ _ _ _).mono ?_; rintro e6 w6 ⟨rfl, rfl⟩))
         go_ret
         exact ⟨ret_bool (by rw [HY.out, ← HA.out, HD.out, allTo_out (.inl g0)]), E4.trans (hE.trans h5)⟩
       by_cases g1 : ringTop k p n < x
       · have hb : decide (x ≤ ringTop k p n) = false := by simpa using g1
         go_wp2_with (first | (go_at_call 115; refine (l02Top_any _ _ _ hf _).mono ?_; rintro e5 w5 ⟨rfl, h5⟩) | (go_at_call 70; refine (in_any _ _ _ _).mono ?_; rintro e6 w6 ⟨rfl, rfl⟩))
         go_ret
         exact ⟨ret_bool (by rw [HY.out, ← HA.out, HD.out, allTo_out (.inr g1)]), E4.trans (hE.trans h5)⟩
       · have hb : decide (x ≤ ringTop k p n) = true := by simpa using g1
         go_wp2_with (first | (go_at_call 115; refine (l02Top_any _ _ _ hf _).mono ?_; rintro e5 w5 ⟨rfl, h5⟩) | (go_at_call 70; refine (in_any _ _ _ _).mono ?_; rintro e6 w6 ⟨rfl, rfl⟩))
         go_roundw
         case rel => exact ⟨j + 1, by omega, by go_num, Lib.hid (by rw [← HA.out, HD.out, allTo_in (by omega) (by omega)]), hE.trans h5⟩
         case measure => simp [RowKit.intOf]; omega
     · have : j = X.length := by omega
       subst this
       go_wp2
       go_ret
       exact ⟨ret_bool (by rw [HY.out, ← HA.out, drop_len, allTo_nil]), E4.trans hE⟩
 · have hq : ((X.length : Int) != s * W) = true := by rw [bne_iff_ne]; exact hlen
   have HN : Hid (tensOk k p n L D X = false) := Lib.hid (tensOk_len (by rw [hse, hW, beq_eq_false_iff_ne]; exact hlen))
   clear hlen ht hs hs1 hs2 hW hse hr
   go_enter Tryz.func92, Tryz.ntmps92
   go_wp2_with fail
   refine (tensorSize_spec _ L D X _ (hv0.ext (by repeat' (first | (with_reducible first | exact Ext.refl _ | assumption | apply Ext.alloc | apply Ext.drew | apply Ext.drewN) | (refine Ext.setAt ?_ (by omega) _ _) | (refine Ext.trans ?_ (by assumption)))))).mono ?_; rintro e2 w2 ⟨rfl, h2⟩; rw [HSE.out]
   obtain ⟨E2, BK, BT⟩ := HST.out w2 h2
   have i0 := BK.cell (j := 0) rfl
   have i1 := BK.cell (j := 1) rfl
   have i2 := BK.cell (j := 2) rfl
   have i3 := BT.cell (j := 2) rfl
   have D0 : Ext w2 w2.drew := (Ext.refl _).drew
   go_wp2_with fail
   first | (go_region_held3 (fun w' => w'.cell? ⟨w.heap.size, 0, none⟩ = some (.int .i64 k) ∧ w'.cell? ⟨w.heap.size, 1, none⟩ = some (.int .i64 p) ∧ w'.cell? ⟨w.heap.size, 2, none⟩ = some (.int .i64 n) ∧ w'.cell? ⟨w.heap.size + 1, 2, none⟩ = some (.slice p3 X.length c3))
    (refine ⟨?_, ?_, ?_, ?_⟩ <;> first | assumption | (simp [*]; done))
    (first | (go_at_call 89; (with_reducible refine (ringOk_spec _ _ _ _).mono ?_); rintro e3 w3 ⟨rfl, h3⟩; rw [HR.out]; have g3 : Ext w2 w3 := D0.trans h3; have j0 := g3.cell i0; have j1 := g3.cell i1; have j2 := g3.cell i2; have j3 := g3.cell i3) | (go_at_call 114; (with_reducible refine (l02Width_any _ _ _ _).mono ?_); rintro e4 w4 ⟨rfl, h4⟩; rw [HWW.out]; have g4 : Ext w2 w4 := g3.trans h4; have l0 := g4.cell i0; have l1 := g4.cell i1; have l2 := g4.cell i2; have l3 := g4.cell i3))) | fail
   all_goals
    go_wp2
    go_ret
    exact ⟨ret_bool HN.out.symm, E2.trans g4⟩
end Go.Proofs.YtlgjddgajdjllaaGreatDoor
