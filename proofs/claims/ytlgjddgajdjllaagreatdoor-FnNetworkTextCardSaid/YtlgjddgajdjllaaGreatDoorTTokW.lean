/- TensorOk of the program. -/
import Derived.Test.YtlgjddgajdjllaaGreatDoorTElemT
set_option linter.unusedSimpArgs false
set_option linter.unusedVariables false
namespace Go.Proofs.YtlgjddgajdjllaaGreatDoor
open Go.RowKit
theorem tensOk_size {k p n : Int} {L D X : List Int} (h : tsize L D = -1) : tensOk k p n L D X = false := by simp [tensOk, h]
theorem tensOk_len {k p n : Int} {L D X : List Int} (h : ((X.length : Int) == tsize L D * ringWidth k n) = false) : tensOk k p n L D X = false := by simp [tensOk, h]
theorem tensOk_top {k p n : Int} {L D X : List Int} (hr : ringOk k p n = true) (hs : ¬ tsize L D = -1) (h : ((X.length : Int) == tsize L D * ringWidth k n) = true) : tensOk k p n L D X = allTo (ringTop k p n) X := by
  unfold tensOk
  rw [hr, h, show (tsize L D == -1) = false by rw [beq_eq_false_iff_ne]; exact hs]
  simp
set_option maxHeartbeats 1000000 in
theorem tensorOk_impl (k p n : Int) (v : Value) (L D X : List Int) (w : World) (hv : TenS w v L D X) : Calls Tryz.prog 29 #[ringV k p n, v] w fun e w' =>
 e = .returned (.bool (tensOk k p n L D X)) ∧ Ext w w' := by
 have hv0 := hv
 obtain ⟨p1, n1, c1, p2, n2, c2, p3, n3, c3, rfl⟩ := hv.shape
 obtain ⟨_, _, _, hvv, hL, hD, hX⟩ := hv.val
 simp at hvv
 obtain ⟨rfl, rfl, rfl⟩ := hvv
 clear hv
 cases hr : ringOk k p n
 · have HZ := Lib.hid (tensOk_no (L := L) (D := D) (X := X) hr)
   go_enter Tryz.func29, Tryz.ntmps29
   go_wp2_with fail
   refine (ringOk_impl _ _ _ _).mono ?_; rintro e1 w1 ⟨rfl, h1⟩; rw [hr]
   go_wp2
   go_ret
   exact ⟨ret_bool HZ.out.symm, (by repeat' (first | (with_reducible first | exact Ext.refl _ | assumption | apply Ext.alloc | apply Ext.drew | apply Ext.drewN) | (refine Ext.setAt ?_ (by omega) _ _) | (refine Ext.trans ?_ (by assumption))))⟩
 have hf := ringOk_fit hr
 have hw := ringOk_wide hr
 have hw0 := hw.lo
 have hw1 := hw.hi
 by_cases ht : tsize L D = -1
 · have HZ := Lib.hid (tensOk_size (k := k) (p := p) (n := n) (X := X) ht)
   have HT := Lib.hid ht; clear ht
   go_enter Tryz.func29, Tryz.ntmps29
   go_wp2_with fail
   refine (ringOk_impl _ _ _ _).mono ?_; rintro e1 w1 ⟨rfl, h1⟩; have s1 := h1.size; (try simp at s1); have t1_0 : w.heap.size < w1.heap.size := (by omega); have c1_0 := fun o => h1.cells (w.heap.size) o (by first | (simp; done) | (simp; omega) | omega); have t1_1 : w.heap.size + 1 < w1.heap.size := (by omega); have c1_1 := fun o => h1.cells (w.heap.size + 1) o (by first | (simp; done) | (simp; omega) | omega); rw [hr]
   go_wp2_with fail
   refine (tensorSize_impl _ L D X _ (hv0.ext (by repeat' (first | (with_reducible first | exact Ext.refl _ | assumption | apply Ext.alloc | apply Ext.drew | apply Ext.drewN) | (refine Ext.setAt ?_ (by omega) _ _) | (refine Ext.trans ?_ (by assumption)))))).mono ?_; rintro e2 w2 ⟨rfl, h2⟩; rw [HT.out]
   go_wp2_with fail
   go_quiet (fail)
   go_wp2
   go_ret
   exact ⟨ret_bool HZ.out.symm, (by repeat' (first | (with_reducible first | exact Ext.refl _ | assumption | apply Ext.alloc | apply Ext.drew | apply Ext.drewN) | (refine Ext.setAt ?_ (by omega) _ _) | (refine Ext.trans ?_ (by assumption))))⟩
 have hs := (tsize_prod ht).1
 obtain ⟨_, hs1, hs2, _⟩ := tsize_prod ht
 obtain ⟨s, hse⟩ : ∃ s, tsize L D = s := ⟨_, rfl⟩
 have hss : 1 ≤ s ∧ s ≤ 4096 := by omega
 obtain ⟨hss0, hss1⟩ := hss
 obtain ⟨W, hW⟩ : ∃ W, ringWidth k n = W := ⟨_, rfl⟩
 rw [hW] at hw0 hw1
 have hm0 : s * 1 ≤ s * W := Int.mul_le_mul_of_nonneg_left hw0 (by omega)
 have hm1 : s * W ≤ s * 6 := Int.mul_le_mul_of_nonneg_left hw1 (by omega)
 have hwr : IntKind.i64.wrap (s * W) = s * W := by rw [IntKind.wrap_i64]; omega
 have hsne : (s != -1) = true := by rw [bne_iff_ne]; omega
 have key : ∀ b : Bool, ((X.length : Int) == s * W) = b → (b = true → allTo (ringTop k p n) X = tensOk k p n L D X) → (b = false → tensOk k p n L D X = false) → Calls Tryz.prog 29 #[ringV k p n, .agg #[.slice p1 n1 c1, .slice p2 n2 c2, .slice p3 n3 c3]] w fun e w' =>
  e = .returned (.bool (tensOk k p n L D X)) ∧ Ext w w' := by
  intro b hb hy hn
  obtain ⟨_, _, e3, _, _⟩ := hX.val
  simp at e3
  obtain ⟨rfl, rfl, rfl⟩ := e3
  have HSE := Lib.hid hse; have HWW := Lib.hid hW; have HY := Lib.hid hy; have HN := Lib.hid hn
  clear hse hW hy hn hs ht hs1 hs2
  cases b
  · go_enter Tryz.func29, Tryz.ntmps29
    go_wp2_with fail
    refine (ringOk_impl _ _ _ _).mono ?_; rintro e1 w1 ⟨rfl, h1⟩; have s1 := h1.size; (try simp at s1); have t1_0 : w.heap.size < w1.heap.size := (by omega); have c1_0 := fun o => h1.cells (w.heap.size) o (by first | (simp; done) | (simp; omega) | omega); have t1_1 : w.heap.size + 1 < w1.heap.size := (by omega); have c1_1 := fun o => h1.cells (w.heap.size + 1) o (by first | (simp; done) | (simp; omega) | omega); rw [hr]
    go_wp2_with fail
    refine (tensorSize_impl _ L D X _ (hv0.ext (by repeat' (first | (with_reducible first | exact Ext.refl _ | assumption | apply Ext.alloc | apply Ext.drew | apply Ext.drewN) | (refine Ext.setAt ?_ (by omega) _ _) | (refine Ext.trans ?_ (by assumption)))))).mono ?_; rintro e2 w2 ⟨rfl, h2⟩; rw [HSE.out]; have s2 := h2.size; (try simp at s2); have t2_0 : w.heap.size < w2.heap.size := (by omega); have c2_0 := fun o => h2.cells (w.heap.size) o (by first | (simp; done) | (simp; omega) | omega); have t2_1 : w.heap.size + 1 < w2.heap.size := (by omega); have c2_1 := fun o => h2.cells (w.heap.size + 1) o (by first | (simp; done) | (simp; omega) | omega)
    have i0 : w2.cell? ⟨w.heap.size, 0, none⟩ = some (.int .i64 k) := by simp [c2_0, c1_0, go_sem]
    have i1 : w2.cell? ⟨w.heap.size, 1, none⟩ = some (.int .i64 p) := by simp [c2_0, c1_0, go_sem]
    have i2 : w2.cell? ⟨w.heap.size, 2, none⟩ = some (.int .i64 n) := by simp [c2_0, c1_0, go_sem]
    have i3 : w2.cell? ⟨w.heap.size + 1, 2, none⟩ = some (.slice p3 X.length c3) := by simp [c2_1, c1_1, go_sem]
    have D0 : Ext w2 w2.drew := (Ext.refl _).drew
    go_wp2_with fail
    first | (go_region_law (first | (go_simp; go_at_call 65; refine (rawWidth_any _ _ _ _).mono ?_; rintro e3 w3 ⟨rfl, h3⟩; rw [HWW.out]; have g3 : Ext w2 w3 := D0.trans h3; have j0 := g3.cell i0; have j1 := g3.cell i1; have j2 := g3.cell i2; have j3 := g3.cell i3))) | fail
    all_goals
     go_wp2
     go_ret
     exact ⟨ret_bool (HN.out (by trivial)).symm, (by repeat' (first | (with_reducible first | exact Ext.refl _ | assumption | apply Ext.alloc | apply Ext.drew | apply Ext.drewN) | (refine Ext.setAt ?_ (by omega) _ _) | (refine Ext.trans ?_ (by assumption))))⟩
  · go_enter Tryz.func29, Tryz.ntmps29
    go_wp2_with fail
    refine (ringOk_impl _ _ _ _).mono ?_; rintro e1 w1 ⟨rfl, h1⟩; have s1 := h1.size; (try simp at s1); have t1_0 : w.heap.size < w1.heap.size := (by omega); have c1_0 := fun o => h1.cells (w.heap.size) o (by first | (simp; done) | (simp; omega) | omega); have t1_1 : w.heap.size + 1 < w1.heap.size := (by omega); have c1_1 := fun o => h1.cells (w.heap.size + 1) o (by first | (simp; done) | (simp; omega) | omega); rw [hr]
    go_wp2_with fail
    refine (tensorSize_impl _ L D X _ (hv0.ext (by repeat' (first | (with_reducible first | exact Ext.refl _ | assumption | apply Ext.alloc | apply Ext.drew | apply Ext.drewN) | (refine Ext.setAt ?_ (by omega) _ _) | (refine Ext.trans ?_ (by assumption)))))).mono ?_; rintro e2 w2 ⟨rfl, h2⟩; rw [HSE.out]; have s2 := h2.size; (try simp at s2); have t2_0 : w.heap.size < w2.heap.size := (by omega); have c2_0 := fun o => h2.cells (w.heap.size) o (by first | (simp; done) | (simp; omega) | omega); have t2_1 : w.heap.size + 1 < w2.heap.size := (by omega); have c2_1 := fun o => h2.cells (w.heap.size + 1) o (by first | (simp; done) | (simp; omega) | omega)
    have i0 : w2.cell? ⟨w.heap.size, 0, none⟩ = some (.int .i64 k) := by simp [c2_0, c1_0, go_sem]
    have i1 : w2.cell? ⟨w.heap.size, 1, none⟩ = some (.int .i64 p) := by simp [c2_0, c1_0, go_sem]
    have i2 : w2.cell? ⟨w.heap.size, 2, none⟩ = some (.int .i64 n) := by simp [c2_0, c1_0, go_sem]
    have i3 : w2.cell? ⟨w.heap.size + 1, 2, none⟩ = some (.slice p3 X.length c3) := by simp [c2_1, c1_1, go_sem]
    have D0 : Ext w2 w2.drew := (Ext.refl _).drew
    have E2 : Ext w w2 := (by repeat' (first | (with_reducible first | exact Ext.refl _ | assumption | apply Ext.alloc | apply Ext.drew | apply Ext.drewN) | (refine Ext.setAt ?_ (by omega) _ _) | (refine Ext.trans ?_ (by assumption))))
    have hX2 := hX.ext E2
    go_wp2_with fail
    go_region_held3 (fun w' => w'.cell? ⟨w.heap.size, 0, none⟩ = some (.int .i64 k) ∧ w'.cell? ⟨w.heap.size, 1, none⟩ = some (.int .i64 p) ∧ w'.cell? ⟨w.heap.size, 2, none⟩ = some (.int .i64 n) ∧ w'.cell? ⟨w.heap.size + 1, 2, none⟩ = some (.slice p3 X.length c3))
     (refine ⟨?_, ?_, ?_, ?_⟩ <;> first | assumption | (simp [*]; done))
     (first | (go_at_call 65; (with_reducible refine (rawWidth_any _ _ _ _).mono ?_); rintro e3 w3 ⟨rfl, h3⟩; rw [HWW.out]; have g3 : Ext w2 w3 := D0.trans h3; have j0 := g3.cell i0; have j1 := g3.cell i1; have j2 := g3.cell i2; have j3 := g3.cell i3) | (go_at_call 66; (with_reducible refine (inRing_any _ _ _ hf _ X w3 (hX2.ext g3)).mono ?_); rintro e4 w4 ⟨rfl, h4⟩; have g4 : Ext w2 w4 := g3.trans h4; have l0 := g4.cell i0; have l1 := g4.cell i1; have l2 := g4.cell i2; have l3 := g4.cell i3))
    go_wp2
    go_ret
    exact ⟨ret_bool (HY.out (by trivial)), E2.trans g4⟩
 refine key _ rfl (fun hb => ?_) (fun hb => ?_)
 · rw [tensOk_top hr ht (by rw [hse, hW]; exact hb)]
 · exact tensOk_len (by rw [hse, hW]; exact hb)
end Go.Proofs.YtlgjddgajdjllaaGreatDoor
