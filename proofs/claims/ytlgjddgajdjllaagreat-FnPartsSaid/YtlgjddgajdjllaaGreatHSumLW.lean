/- scalarOne, SumLabels of the program; the laws' join. -/
import Derived.Test.YtlgjddgajdjllaaGreatHContrW
set_option linter.unusedSimpArgs false
set_option linter.unusedVariables false
set_option maxRecDepth 100000
set_option maxHeartbeats 4000000
namespace Go.Proofs.YtlgjddgajdjllaaGreat
open Go.RowKit
section
variable {k p n : Int} (hr : ringOk k p n = true)
def sumXs (dm : Int → Int) (a keep : List Int) (xs : List (El k p n)) : List (El k p n) := tab (axs dm (keepL a keep)) (contrF (rig hr) dm a keep (valT hr dm a xs)) σ0
theorem sum_of_contr {dm : Int → Int} {a : List Int} (keep : List Int) (xs : List (El k p n)) : contrXs hr dm a [] keep xs [(rig hr).one] = sumXs hr dm a keep xs := by
  unfold contrXs sumXs
  rw [joinL_nil]
  congr 1
  funext σ
  unfold contrF
  refine sumA_ext (rig hr) _ σ fun τ => ?_
  show (rig hr).mul (valT hr dm a xs τ) (rig hr).one = _
  exact (rig hr).mul_one _
theorem one_isT {dm : Int → Int} {U : List Int} (u : Uni dm U) : IsT k p n dm U [] [(rig hr).one] := ⟨u, Sub.nil U, rfl⟩
theorem flat_one : flat [(rig hr).one] = oneL k p n := by simp [flat]; rfl
theorem scalarOne_any (hr : ringOk k p n = true) (w : World) : Calls Tryz.prog 25 #[ringV k p n] w fun e w' => ∃ u, e = .returned u ∧ OwnT w' w.heap.size u [] [] (oneL k p n) ∧ Ext w w' := by
 have HR := Lib.hid hr
 generalize hW1 : ((w.alloc (.cells #[.int .i64 k, .int .i64 p, .int .i64 n] 24)).alloc (.cells #[.slice none 0 0, .slice none 0 0, .slice none 0 0] 35)) = w1
 have h1 : Ext w w1 := by rw [← hW1]; exact xt
 have Br : Blk w1 (w.heap.size) 24 [.int .i64 k, .int .i64 p, .int .i64 n] := by rw [← hW1]; exact ((Blk.newB (c := #[_, _, _]) (by simp)).alloc _)
 have Bz : Blk w1 (w.heap.size + 1) 35 [.slice none 0 0, .slice none 0 0, .slice none 0 0] := by rw [← hW1]; exact (Blk.newB (c := #[_, _, _]) (by simp))
 have HS1 : Hid (w1.heap.size = w.heap.size + 2) := Lib.hid (by rw [← hW1]; simp)
 have HW := Lib.hid hW1; clear hW1
 go_enter Tryz.func25, Tryz.ntmps25
 go_wp2_with fail
 rw [HW.out]
 have ir_0 := Br.cell (j := 0) rfl
 have ir_1 := Br.cell (j := 1) rfl
 have ir_2 := Br.cell (j := 2) rfl
 have lr := Br.lt
 go_wp2_with fail
 refine (rawOne_any k p n (ringOk_wide HR.out) (ringOk_fit HR.out) _).mono ?_; rintro e2 w2 ⟨v2, rfl, o2, h2⟩
 obtain ⟨a2, c2, rfl, _, _⟩ := o2.ints.val
 have Bz2 := Bz.ext h2
 have f0 := Bz2.free 0
 have f1 := Bz2.free 1
 have f2 := Bz2.free 2
 have z0 := Bz2.cell (j := 0) rfl
 have z1 := Bz2.cell (j := 1) rfl
 have z2 := Bz2.cell (j := 2) rfl
 have lz := Bz2.lt
 have hs1 := HS1.out
 have hlt : w.heap.size + 1 < w1.heap.size := by omega
 go_wp2
 refine bodyPost_ret (v := .agg #[.slice none 0 0, .slice none 0 0, .slice a2 (oneL k p n).length c2]) (by simp [results, Tryz.results25, go_sem, *]) rfl ?_
 exact ⟨_, rfl, (OwnT.data (((o2.setBelow hlt _).setBelow hlt _).setBelow hlt _)).mono (by omega), (((h1.trans h2).setAt (by omega) _ _).setAt (by omega) _ _).setAt (by omega) _ _⟩
theorem OwnT.data1 {w : World} {B : Nat} {v : Value} {X : List Int} (h : OwnT w B v [] [] X) : ∃ q1 q2 q3 : Value, v = .agg #[q1, q2, q3] := by
  obtain ⟨a, b, c, rfl, _⟩ := h.val
  exact ⟨_, _, _, rfl⟩
theorem one_ten (hr : ringOk k p n = true) {w : World} {B : Nat} {v : Value} {dm : Int → Int} (h : OwnT w B v [] [] (oneL k p n)) : TenS w v [] (([] : List Int).map dm) (flat [(rig hr).one]) := by
  rw [flat_one]; exact h.tens
theorem sumLabels_any {dm : Int → Int} {U a : List Int} {xs : List (El k p n)} (ht : IsT k p n dm U a xs) (keep : List Int) (va vk : Value) (w : World) (ha : TenS w va a (a.map dm) (flat xs)) (hk : IntS w vk keep) :
 Calls Tryz.prog 62 #[ringV k p n, va, vk] w fun e w' => ∃ u, e = .returned u ∧ OwnT w' w.heap.size u (keepL a keep) ((keepL a keep).map dm) (flat (sumXs hr dm a keep xs)) ∧ Ext w w' := by
 have HT := Lib.hid ht; clear ht
 have HR := Lib.hid hr
 have HY := Lib.hid (HT.out.yes hr)
 obtain ⟨ak, ck, rfl, _, _⟩ := hk.val
 have ha0 := ha
 obtain ⟨ap1, an1, ac1, ap2, an2, ac2, ap3, an3, ac3, rfl⟩ := ha.shape
 obtain ⟨_, _, _, hvv, haL, haD, haX⟩ := ha.val
 simp at hvv
 obtain ⟨rfl, rfl, rfl⟩ := hvv
 generalize hW1 : (((w.alloc (.cells #[.int .i64 k, .int .i64 p, .int .i64 n] 24)).alloc (.cells #[.slice ap1 an1 ac1, .slice ap2 an2 ac2, .slice ap3 an3 ac3] 35)).alloc (.cells #[.slice none 0 0, .slice none 0 0, .slice none 0 0] 35)) = w1
 have h1 : Ext w w1 := by rw [← hW1]; exact xt
 have Br : Blk w1 (w.heap.size) 24 [.int .i64 k, .int .i64 p, .int .i64 n] := by rw [← hW1]; exact (((Blk.newB (c := #[_, _, _]) (by simp)).alloc _).alloc _)
 have Ba : Blk w1 (w.heap.size + 1) 35 [.slice ap1 an1 ac1, .slice ap2 an2 ac2, .slice ap3 an3 ac3] := by rw [← hW1]; exact ((Blk.newB (c := #[_, _, _]) (by simp)).alloc _)
 have Bz : Blk w1 (w.heap.size + 2) 35 [.slice none 0 0, .slice none 0 0, .slice none 0 0] := by rw [← hW1]; exact (Blk.newB (c := #[_, _, _]) (by simp))
 have HS1 : Hid (w1.heap.size = w.heap.size + 3) := Lib.hid (by rw [← hW1]; simp)
 have HW := Lib.hid hW1; clear hW1
 go_enter Tryz.func62, Tryz.ntmps62
 go_wp2_with fail
 rw [HW.out]
 have ir_0 := Br.cell (j := 0) rfl
 have ir_1 := Br.cell (j := 1) rfl
 have ir_2 := Br.cell (j := 2) rfl
 have ia_0 := Ba.cell (j := 0) rfl
 have ia_1 := Ba.cell (j := 1) rfl
 have ia_2 := Ba.cell (j := 2) rfl
 go_wp2_with fail
 refine (tensorOk_impl k p n _ a _ _ _ (ha0.ext h1)).mono ?_; rintro e2 w2 ⟨rfl, h2⟩; rw [HY.out]
 have B2r := Br.ext h2
 have B2a := Ba.ext h2
 have B2z := Bz.ext h2
 have j2r_0 := B2r.cell (j := 0) rfl
 have j2r_1 := B2r.cell (j := 1) rfl
 have j2r_2 := B2r.cell (j := 2) rfl
 have j2a_0 := B2a.cell (j := 0) rfl
 have j2a_1 := B2a.cell (j := 1) rfl
 have j2a_2 := B2a.cell (j := 2) rfl
 have l2r := B2r.lt
 have l2a := B2a.lt
 have l2z := B2z.lt
 clear ir_0 ir_1 ir_2 ia_0 ia_1 ia_2
 have E2 : Ext w w2 := h1.trans h2
 have D0 : Ext w2 w2.drew := (Ext.refl _).drew
 have hs1 := HS1.out
 have hs2 := h2.size
 have hn0 : w.heap.size ≠ w2.heap.size := by omega
 have hn1 : w.heap.size + 1 ≠ w2.heap.size := by omega
 go_upto_region 3 with fail
 go_cut [7] from 9 (fun q wx => ∃ bu up1 un1 uc1 up2 un2 uc2 up3 un3 uc3, q = .pointer (some ⟨bu, 0, none⟩) ∧ Blk wx bu 35 [.slice up1 un1 uc1, .slice up2 un2 uc2, .slice up3 un3 uc3] ∧ Ext w2 wx ∧ OwnT wx w2.heap.size (.agg #[.slice up1 un1 uc1, .slice up2 un2 uc2, .slice up3 un3 uc3]) (keepL a keep) ((keepL a keep).map dm) (flat (sumXs hr dm a keep xs)))
 case first =>
  refine wp_region_held_drew (S := fun w' => w'.cell? ⟨w.heap.size, 0, none⟩ = some (.int .i64 k) ∧ w'.cell? ⟨w.heap.size, 1, none⟩ = some (.int .i64 p) ∧ w'.cell? ⟨w.heap.size, 2, none⟩ = some (.int .i64 n) ∧ w'.cell? ⟨w.heap.size + 1, 0, none⟩ = some (.slice ap1 an1 ac1) ∧ w'.cell? ⟨w.heap.size + 1, 1, none⟩ = some (.slice ap2 an2 ac2) ∧ w'.cell? ⟨w.heap.size + 1, 2, none⟩ = some (.slice ap3 an3 ac3)) (by kernel_rfl) ?_ (fun hHeld => ?_)
  · (with_reducible first | exact xc6 D0 j2r_0 j2r_1 j2r_2 j2a_0 j2a_1 j2a_2 | exact xc6 (((Ext.refl w2).alloc _).drew) j2r_0 j2r_1 j2r_2 j2a_0 j2a_1 j2a_2 | exact ⟨xr_0, xr_1, xr_2, xa_0, xa_1, xa_2⟩ | exact xc6 (E3.alloc _) j2r_0 j2r_1 j2r_2 j2a_0 j2a_1 j2a_2 | exact ⟨yr_0, yr_1, yr_2, ya_0, ya_1, ya_2⟩ | exact xc6 (E4.alloc _) j2r_0 j2r_1 j2r_2 j2a_0 j2a_1 j2a_2 | exact gc6 (b := w2.heap.size) (grown_setCell (grown_setCell (grown_setCell (grown_refl _ _) _ _) _ _) _ _) hn0 yr_0 hn0 yr_1 hn0 yr_2 hn1 ya_0 hn1 ya_1 hn1 ya_2 | exact gc6 (b := w3.heap.size) (grown_setCell (grown_setCell (grown_setCell (grown_refl _ _) _ _) _ _) _ _) hm0 yr_0 hm0 yr_1 hm0 yr_2 hm1 ya_0 hm1 ya_1 hm1 ya_2)
  refine wpAnyH_take (i := 0) (v := ?_) rfl (by kernel_rfl) (by kernel_rfl) (by kernel_rfl) (fun _ _ _ h => h) (Or.inl ⟨by rfl, ?_⟩) (by assumption) ?_
  rotate_left
  · intro w hSw; (try dsimp only at hSw); go_simp; (try with_reducible rfl)
  (try go_simp)
  refine wpAnyH_take (i := 1) (v := ?_) rfl (by kernel_rfl) (by kernel_rfl) (by kernel_rfl) (fun _ _ _ h => h) (Or.inl ⟨by rfl, ?_⟩) (by assumption) ?_
  rotate_left
  · intro w hSw; (try dsimp only at hSw); go_simp; (try with_reducible rfl)
  (try go_simp)
  refine wpAnyH_take (i := 2) (v := ?_) rfl (by kernel_rfl) (by kernel_rfl) (by kernel_rfl) (fun _ _ _ h => h) (Or.inl ⟨by rfl, ?_⟩) (by assumption) ?_
  rotate_left
  · intro w hSw; (try dsimp only at hSw); go_simp; (try with_reducible rfl)
  (try go_simp)
  refine wpAnyH_take (i := 4) (v := ?_) rfl (by kernel_rfl) (by kernel_rfl) (by kernel_rfl) (fun _ _ _ h => h) (Or.inl ⟨by rfl, ?_⟩) (by assumption) ?_
  rotate_left
  · intro w hSw; (try dsimp only at hSw); go_simp; (try with_reducible rfl)
  (try go_simp)
  refine wpAnyH_ready (rs := [3, 9]) (by kernel_rfl) (by simp) ?_
  refine AllReadyH.cons rfl (fun Kc hKc => ?_) ?_
  ·
   go_simp; go_at_call 25
   (with_reducible refine (scalarOne_any HR.out w2.drew).mono ?_); rintro e3 w3 ⟨v3, rfl, o3, h3⟩; obtain ⟨q1, q2, q3, rfl⟩ := o3.data1; have E3 : Ext w2 w3 := D0.trans h3; have xr_0 := E3.cell j2r_0; have xr_1 := E3.cell j2r_1; have xr_2 := E3.cell j2r_2; have xa_0 := E3.cell j2a_0; have xa_1 := E3.cell j2a_1; have xa_2 := E3.cell j2a_2; have hE3s := E3.size; have hm0 : w.heap.size ≠ w3.heap.size := (by omega); have hm1 : w.heap.size + 1 ≠ w3.heap.size := (by omega)
   (try go_simp)
   refine hKc.out _ _ ?_ (fun hHeld => ?_) <;> clear hKc Kc
   · (with_reducible first | exact xc6 D0 j2r_0 j2r_1 j2r_2 j2a_0 j2a_1 j2a_2 | exact xc6 (((Ext.refl w2).alloc _).drew) j2r_0 j2r_1 j2r_2 j2a_0 j2a_1 j2a_2 | exact ⟨xr_0, xr_1, xr_2, xa_0, xa_1, xa_2⟩ | exact xc6 (E3.alloc _) j2r_0 j2r_1 j2r_2 j2a_0 j2a_1 j2a_2 | exact ⟨yr_0, yr_1, yr_2, ya_0, ya_1, ya_2⟩ | exact xc6 (E4.alloc _) j2r_0 j2r_1 j2r_2 j2a_0 j2a_1 j2a_2 | exact gc6 (b := w2.heap.size) (grown_setCell (grown_setCell (grown_setCell (grown_refl _ _) _ _) _ _) _ _) hn0 yr_0 hn0 yr_1 hn0 yr_2 hn1 ya_0 hn1 ya_1 hn1 ya_2 | exact gc6 (b := w3.heap.size) (grown_setCell (grown_setCell (grown_setCell (grown_refl _ _) _ _) _ _) _ _) hm0 yr_0 hm0 yr_1 hm0 yr_2 hm1 ya_0 hm1 ya_1 hm1 ya_2)
   refine wpAnyH_ready (rs := [5, 9]) (by kernel_rfl) (by simp) ?_
   refine AllReadyH.cons rfl (fun Kc hKc => ?_) ?_
   ·
    go_simp; go_at_call 13
    (with_reducible refine (contractPair_any HR.out HT.out (one_isT HR.out HT.out.uni) keep _ _ _ w3 (ha0.ext (E2.trans E3)) (one_ten HR.out o3) (hk.ext (E2.trans E3))).mono ?_); rintro e4 w4 ⟨v4, rfl, o4, h4⟩; rw [joinL_nil, sum_of_contr] at o4; obtain ⟨up1, un1, uc1, up2, un2, uc2, up3, un3, uc3, rfl⟩ := o4.shape; have E4 : Ext w2 w4 := E3.trans h4; have yr_0 := E4.cell j2r_0; have yr_1 := E4.cell j2r_1; have yr_2 := E4.cell j2r_2; have ya_0 := E4.cell j2a_0; have ya_1 := E4.cell j2a_1; have ya_2 := E4.cell j2a_2; have hE4s := E4.size; have o4m := o4.mono (B' := w2.heap.size) (by omega)
    (try go_simp)
    refine hKc.out _ _ ?_ (fun hHeld => ?_) <;> clear hKc Kc
    · (with_reducible first | exact xc6 D0 j2r_0 j2r_1 j2r_2 j2a_0 j2a_1 j2a_2 | exact xc6 (((Ext.refl w2).alloc _).drew) j2r_0 j2r_1 j2r_2 j2a_0 j2a_1 j2a_2 | exact ⟨xr_0, xr_1, xr_2, xa_0, xa_1, xa_2⟩ | exact xc6 (E3.alloc _) j2r_0 j2r_1 j2r_2 j2a_0 j2a_1 j2a_2 | exact ⟨yr_0, yr_1, yr_2, ya_0, ya_1, ya_2⟩ | exact xc6 (E4.alloc _) j2r_0 j2r_1 j2r_2 j2a_0 j2a_1 j2a_2 | exact gc6 (b := w2.heap.size) (grown_setCell (grown_setCell (grown_setCell (grown_refl _ _) _ _) _ _) _ _) hn0 yr_0 hn0 yr_1 hn0 yr_2 hn1 ya_0 hn1 ya_1 hn1 ya_2 | exact gc6 (b := w3.heap.size) (grown_setCell (grown_setCell (grown_setCell (grown_refl _ _) _ _) _ _) _ _) hm0 yr_0 hm0 yr_1 hm0 yr_2 hm1 ya_0 hm1 ya_1 hm1 ya_2)
    refine wpAnyH_take (i := 6) (v := ?_) rfl (by kernel_rfl) (by kernel_rfl) (by kernel_rfl) (fun _ _ _ h => h) (Or.inl ⟨by rfl, ?_⟩) (by assumption) ?_
    rotate_left
    · intro w hSw; (try dsimp only at hSw); go_simp; (try with_reducible rfl)
    (try go_simp)
    refine wpAnyH_take (i := 7) (v := ?_) rfl (by kernel_rfl) (by kernel_rfl) (by kernel_rfl) (fun _ _ _ h => h) (Or.inl ⟨by rfl, ?_⟩) (by assumption) ?_
    rotate_left
    · intro w hSw; (try dsimp only at hSw); go_simp; (try with_reducible rfl)
    (try go_simp)
    refine wpAnyH_take (i := 8) (v := ?_) rfl (by kernel_rfl) (by kernel_rfl) (by kernel_rfl) (fun _ _ _ h => h) (Or.inl ⟨by rfl, ?_⟩) (by assumption) ?_
    rotate_left
    · intro w hSw; (try dsimp only at hSw); go_simp; (try with_reducible rfl)
    (try go_simp)
    refine wpAnyH_ready (rs := [9]) (by kernel_rfl) (by simp) ?_
    refine AllReadyH.cons rfl (fun Kc hKc => ?_) AllReadyH.nil
    go_simp
    refine hKc.out _ _ ?_ (fun hHeld => ?_) <;> clear hKc Kc
    · (with_reducible first | exact xc6 D0 j2r_0 j2r_1 j2r_2 j2a_0 j2a_1 j2a_2 | exact xc6 (((Ext.refl w2).alloc _).drew) j2r_0 j2r_1 j2r_2 j2a_0 j2a_1 j2a_2 | exact ⟨xr_0, xr_1, xr_2, xa_0, xa_1, xa_2⟩ | exact xc6 (E3.alloc _) j2r_0 j2r_1 j2r_2 j2a_0 j2a_1 j2a_2 | exact ⟨yr_0, yr_1, yr_2, ya_0, ya_1, ya_2⟩ | exact xc6 (E4.alloc _) j2r_0 j2r_1 j2r_2 j2a_0 j2a_1 j2a_2 | exact gc6 (b := w2.heap.size) (grown_setCell (grown_setCell (grown_setCell (grown_refl _ _) _ _) _ _) _ _) hn0 yr_0 hn0 yr_1 hn0 yr_2 hn1 ya_0 hn1 ya_1 hn1 ya_2 | exact gc6 (b := w3.heap.size) (grown_setCell (grown_setCell (grown_setCell (grown_refl _ _) _ _) _ _) _ _) hm0 yr_0 hm0 yr_1 hm0 yr_2 hm1 ya_0 hm1 ya_1 hm1 ya_2)
    refine wpAnyH_ready (rs := [10]) (by kernel_rfl) (by simp) ?_
    refine AllReadyH.cons rfl (fun Kc hKc => ?_) AllReadyH.nil
    go_simp
    refine hKc.out _ _ ?_ (fun hHeld => ?_) <;> clear hKc Kc
    · (with_reducible first | exact xc6 D0 j2r_0 j2r_1 j2r_2 j2a_0 j2a_1 j2a_2 | exact xc6 (((Ext.refl w2).alloc _).drew) j2r_0 j2r_1 j2r_2 j2a_0 j2a_1 j2a_2 | exact ⟨xr_0, xr_1, xr_2, xa_0, xa_1, xa_2⟩ | exact xc6 (E3.alloc _) j2r_0 j2r_1 j2r_2 j2a_0 j2a_1 j2a_2 | exact ⟨yr_0, yr_1, yr_2, ya_0, ya_1, ya_2⟩ | exact xc6 (E4.alloc _) j2r_0 j2r_1 j2r_2 j2a_0 j2a_1 j2a_2 | exact gc6 (b := w2.heap.size) (grown_setCell (grown_setCell (grown_setCell (grown_refl _ _) _ _) _ _) _ _) hn0 yr_0 hn0 yr_1 hn0 yr_2 hn1 ya_0 hn1 ya_1 hn1 ya_2 | exact gc6 (b := w3.heap.size) (grown_setCell (grown_setCell (grown_setCell (grown_refl _ _) _ _) _ _) _ _) hm0 yr_0 hm0 yr_1 hm0 yr_2 hm1 ya_0 hm1 ya_1 hm1 ya_2)
    refine wpAnyH_ready (rs := [11]) (by kernel_rfl) (by simp) ?_
    refine AllReadyH.cons rfl (fun Kc hKc => ?_) AllReadyH.nil
    go_simp
    refine hKc.out _ _ ?_ (fun hHeld => ?_) <;> clear hKc Kc
    · (with_reducible first | exact xc6 D0 j2r_0 j2r_1 j2r_2 j2a_0 j2a_1 j2a_2 | exact xc6 (((Ext.refl w2).alloc _).drew) j2r_0 j2r_1 j2r_2 j2a_0 j2a_1 j2a_2 | exact ⟨xr_0, xr_1, xr_2, xa_0, xa_1, xa_2⟩ | exact xc6 (E3.alloc _) j2r_0 j2r_1 j2r_2 j2a_0 j2a_1 j2a_2 | exact ⟨yr_0, yr_1, yr_2, ya_0, ya_1, ya_2⟩ | exact xc6 (E4.alloc _) j2r_0 j2r_1 j2r_2 j2a_0 j2a_1 j2a_2 | exact gc6 (b := w2.heap.size) (grown_setCell (grown_setCell (grown_setCell (grown_refl _ _) _ _) _ _) _ _) hn0 yr_0 hn0 yr_1 hn0 yr_2 hn1 ya_0 hn1 ya_1 hn1 ya_2 | exact gc6 (b := w3.heap.size) (grown_setCell (grown_setCell (grown_setCell (grown_refl _ _) _ _) _ _) _ _) hm0 yr_0 hm0 yr_1 hm0 yr_2 hm1 ya_0 hm1 ya_1 hm1 ya_2)
    refine wpAnyH_done (by kernel_rfl) ?_ _
    go_wp2_with fail
    go_meet
    exact ⟨w4.heap.size, up1, un1, uc1, up2, un2, uc2, up3, un3, uc3, rfl, Blk.new w4 #[.slice up1 un1 uc1, .slice up2 un2 uc2, .slice up3 un3 uc3] _, E4.alloc _, (o4m.ext ((Ext.refl _).alloc _))⟩
   refine AllReadyH.cons rfl (fun Kc hKc => ?_) AllReadyH.nil
   go_simp
   refine hKc.out _ _ ?_ (fun hHeld => ?_) <;> clear hKc Kc
   · (with_reducible first | exact xc6 D0 j2r_0 j2r_1 j2r_2 j2a_0 j2a_1 j2a_2 | exact xc6 (((Ext.refl w2).alloc _).drew) j2r_0 j2r_1 j2r_2 j2a_0 j2a_1 j2a_2 | exact ⟨xr_0, xr_1, xr_2, xa_0, xa_1, xa_2⟩ | exact xc6 (E3.alloc _) j2r_0 j2r_1 j2r_2 j2a_0 j2a_1 j2a_2 | exact ⟨yr_0, yr_1, yr_2, ya_0, ya_1, ya_2⟩ | exact xc6 (E4.alloc _) j2r_0 j2r_1 j2r_2 j2a_0 j2a_1 j2a_2 | exact gc6 (b := w2.heap.size) (grown_setCell (grown_setCell (grown_setCell (grown_refl _ _) _ _) _ _) _ _) hn0 yr_0 hn0 yr_1 hn0 yr_2 hn1 ya_0 hn1 ya_1 hn1 ya_2 | exact gc6 (b := w3.heap.size) (grown_setCell (grown_setCell (grown_setCell (grown_refl _ _) _ _) _ _) _ _) hm0 yr_0 hm0 yr_1 hm0 yr_2 hm1 ya_0 hm1 ya_1 hm1 ya_2)
   refine wpAnyH_ready (rs := [5]) (by kernel_rfl) (by simp) ?_
   refine AllReadyH.cons rfl (fun Kc hKc => ?_) AllReadyH.nil
   go_simp; go_at_call 13
   (with_reducible refine (contractPair_any HR.out HT.out (one_isT HR.out HT.out.uni) keep _ _ _ (w3.alloc (.cells #[.slice none 0 0, .slice none 0 0, .slice none 0 0] 35)) (ha0.ext (E2.trans (E3.alloc _))) ((one_ten HR.out o3).ext ((Ext.refl w3).alloc _)) (hk.ext (E2.trans (E3.alloc _)))).mono ?_); rintro e4 w4 ⟨v4, rfl, o4, h4⟩; rw [joinL_nil, sum_of_contr] at o4; obtain ⟨up1, un1, uc1, up2, un2, uc2, up3, un3, uc3, rfl⟩ := o4.shape; have E4 : Ext w2 w4 := (E3.alloc _).trans h4; have yr_0 := E4.cell j2r_0; have yr_1 := E4.cell j2r_1; have yr_2 := E4.cell j2r_2; have ya_0 := E4.cell j2a_0; have ya_1 := E4.cell j2a_1; have ya_2 := E4.cell j2a_2; have hE4s := E4.size; have o4m := o4.mono (B' := w2.heap.size) (by simp; omega); have Y4 : Blk w4 w3.heap.size 35 [.slice none 0 0, .slice none 0 0, .slice none 0 0] := (Blk.new w3 #[.slice none 0 0, .slice none 0 0, .slice none 0 0] 35).ext h4; have f4_0 := Y4.free 0; have y4_0 := Y4.cell (j := 0) rfl; have f4_1 := Y4.free 1; have y4_1 := Y4.cell (j := 1) rfl; have f4_2 := Y4.free 2; have y4_2 := Y4.cell (j := 2) rfl; have yl4 := Y4.lt; have o4c := o4
   (try go_simp)
   refine hKc.out _ _ ?_ (fun hHeld => ?_) <;> clear hKc Kc
   · (with_reducible first | exact xc6 D0 j2r_0 j2r_1 j2r_2 j2a_0 j2a_1 j2a_2 | exact xc6 (((Ext.refl w2).alloc _).drew) j2r_0 j2r_1 j2r_2 j2a_0 j2a_1 j2a_2 | exact ⟨xr_0, xr_1, xr_2, xa_0, xa_1, xa_2⟩ | exact xc6 (E3.alloc _) j2r_0 j2r_1 j2r_2 j2a_0 j2a_1 j2a_2 | exact ⟨yr_0, yr_1, yr_2, ya_0, ya_1, ya_2⟩ | exact xc6 (E4.alloc _) j2r_0 j2r_1 j2r_2 j2a_0 j2a_1 j2a_2 | exact gc6 (b := w2.heap.size) (grown_setCell (grown_setCell (grown_setCell (grown_refl _ _) _ _) _ _) _ _) hn0 yr_0 hn0 yr_1 hn0 yr_2 hn1 ya_0 hn1 ya_1 hn1 ya_2 | exact gc6 (b := w3.heap.size) (grown_setCell (grown_setCell (grown_setCell (grown_refl _ _) _ _) _ _) _ _) hm0 yr_0 hm0 yr_1 hm0 yr_2 hm1 ya_0 hm1 ya_1 hm1 ya_2)
   refine wpAnyH_take (i := 6) (v := ?_) rfl (by kernel_rfl) (by kernel_rfl) (by kernel_rfl) (fun _ _ _ h => h) (Or.inl ⟨by rfl, ?_⟩) (by assumption) ?_
   rotate_left
   · intro w hSw; (try dsimp only at hSw); go_simp; (try with_reducible rfl)
   (try go_simp)
   refine wpAnyH_take (i := 7) (v := ?_) rfl (by kernel_rfl) (by kernel_rfl) (by kernel_rfl) (fun _ _ _ h => h) (Or.inl ⟨by rfl, ?_⟩) (by assumption) ?_
   rotate_left
   · intro w hSw; (try dsimp only at hSw); go_simp; (try with_reducible rfl)
   (try go_simp)
   refine wpAnyH_take (i := 8) (v := ?_) rfl (by kernel_rfl) (by kernel_rfl) (by kernel_rfl) (fun _ _ _ h => h) (Or.inl ⟨by rfl, ?_⟩) (by assumption) ?_
   rotate_left
   · intro w hSw; (try dsimp only at hSw); go_simp; (try with_reducible rfl)
   (try go_simp)
   refine wpAnyH_ready (rs := [10]) (by kernel_rfl) (by simp) ?_
   refine AllReadyH.cons rfl (fun Kc hKc => ?_) AllReadyH.nil
   go_simp
   refine hKc.out _ _ ?_ (fun hHeld => ?_) <;> clear hKc Kc
   · (with_reducible first | exact xc6 D0 j2r_0 j2r_1 j2r_2 j2a_0 j2a_1 j2a_2 | exact xc6 (((Ext.refl w2).alloc _).drew) j2r_0 j2r_1 j2r_2 j2a_0 j2a_1 j2a_2 | exact ⟨xr_0, xr_1, xr_2, xa_0, xa_1, xa_2⟩ | exact xc6 (E3.alloc _) j2r_0 j2r_1 j2r_2 j2a_0 j2a_1 j2a_2 | exact ⟨yr_0, yr_1, yr_2, ya_0, ya_1, ya_2⟩ | exact xc6 (E4.alloc _) j2r_0 j2r_1 j2r_2 j2a_0 j2a_1 j2a_2 | exact gc6 (b := w2.heap.size) (grown_setCell (grown_setCell (grown_setCell (grown_refl _ _) _ _) _ _) _ _) hn0 yr_0 hn0 yr_1 hn0 yr_2 hn1 ya_0 hn1 ya_1 hn1 ya_2 | exact gc6 (b := w3.heap.size) (grown_setCell (grown_setCell (grown_setCell (grown_refl _ _) _ _) _ _) _ _) hm0 yr_0 hm0 yr_1 hm0 yr_2 hm1 ya_0 hm1 ya_1 hm1 ya_2)
   refine wpAnyH_ready (rs := [11]) (by kernel_rfl) (by simp) ?_
   refine AllReadyH.cons rfl (fun Kc hKc => ?_) AllReadyH.nil
   go_simp
   refine hKc.out _ _ ?_ (fun hHeld => ?_) <;> clear hKc Kc
   · (with_reducible first | exact xc6 D0 j2r_0 j2r_1 j2r_2 j2a_0 j2a_1 j2a_2 | exact xc6 (((Ext.refl w2).alloc _).drew) j2r_0 j2r_1 j2r_2 j2a_0 j2a_1 j2a_2 | exact ⟨xr_0, xr_1, xr_2, xa_0, xa_1, xa_2⟩ | exact xc6 (E3.alloc _) j2r_0 j2r_1 j2r_2 j2a_0 j2a_1 j2a_2 | exact ⟨yr_0, yr_1, yr_2, ya_0, ya_1, ya_2⟩ | exact xc6 (E4.alloc _) j2r_0 j2r_1 j2r_2 j2a_0 j2a_1 j2a_2 | exact gc6 (b := w2.heap.size) (grown_setCell (grown_setCell (grown_setCell (grown_refl _ _) _ _) _ _) _ _) hn0 yr_0 hn0 yr_1 hn0 yr_2 hn1 ya_0 hn1 ya_1 hn1 ya_2 | exact gc6 (b := w3.heap.size) (grown_setCell (grown_setCell (grown_setCell (grown_refl _ _) _ _) _ _) _ _) hm0 yr_0 hm0 yr_1 hm0 yr_2 hm1 ya_0 hm1 ya_1 hm1 ya_2)
   refine wpAnyH_done (by kernel_rfl) ?_ _
   go_wp2_with fail
   go_meet
   exact ⟨w3.heap.size, up1, un1, uc1, up2, un2, uc2, up3, un3, uc3, rfl, ((Y4.set 0 (.slice up1 un1 uc1)).set 1 (.slice up2 un2 uc2)).set 2 (.slice up3 un3 uc3), ((E4.setAt hE3s _ _).setAt hE3s _ _).setAt hE3s _ _, (((o4c.setBelow (p := ⟨w3.heap.size, 0, none⟩) (by simp) _).setBelow (p := ⟨w3.heap.size, 1, none⟩) (by simp) _).setBelow (p := ⟨w3.heap.size, 2, none⟩) (by simp) _).mono (by simp; omega)⟩
  refine AllReadyH.cons rfl (fun Kc hKc => ?_) AllReadyH.nil
  go_simp
  refine hKc.out _ _ ?_ (fun hHeld => ?_) <;> clear hKc Kc
  · (with_reducible first | exact xc6 D0 j2r_0 j2r_1 j2r_2 j2a_0 j2a_1 j2a_2 | exact xc6 (((Ext.refl w2).alloc _).drew) j2r_0 j2r_1 j2r_2 j2a_0 j2a_1 j2a_2 | exact ⟨xr_0, xr_1, xr_2, xa_0, xa_1, xa_2⟩ | exact xc6 (E3.alloc _) j2r_0 j2r_1 j2r_2 j2a_0 j2a_1 j2a_2 | exact ⟨yr_0, yr_1, yr_2, ya_0, ya_1, ya_2⟩ | exact xc6 (E4.alloc _) j2r_0 j2r_1 j2r_2 j2a_0 j2a_1 j2a_2 | exact gc6 (b := w2.heap.size) (grown_setCell (grown_setCell (grown_setCell (grown_refl _ _) _ _) _ _) _ _) hn0 yr_0 hn0 yr_1 hn0 yr_2 hn1 ya_0 hn1 ya_1 hn1 ya_2 | exact gc6 (b := w3.heap.size) (grown_setCell (grown_setCell (grown_setCell (grown_refl _ _) _ _) _ _) _ _) hm0 yr_0 hm0 yr_1 hm0 yr_2 hm1 ya_0 hm1 ya_1 hm1 ya_2)
  refine wpAnyH_ready (rs := [3]) (by kernel_rfl) (by simp) ?_
  refine AllReadyH.cons rfl (fun Kc hKc => ?_) AllReadyH.nil
  go_simp; go_at_call 25
  (with_reducible refine (scalarOne_any HR.out (w2.alloc (.cells #[.slice none 0 0, .slice none 0 0, .slice none 0 0] 35)).drew).mono ?_); rintro e3 w3 ⟨v3, rfl, o3, h3⟩; obtain ⟨q1, q2, q3, rfl⟩ := o3.data1; have E3 : Ext w2 w3 := (((Ext.refl w2).alloc _).drew).trans h3; have xr_0 := E3.cell j2r_0; have xr_1 := E3.cell j2r_1; have xr_2 := E3.cell j2r_2; have xa_0 := E3.cell j2a_0; have xa_1 := E3.cell j2a_1; have xa_2 := E3.cell j2a_2; have hE3s := E3.size; have hm0 : w.heap.size ≠ w3.heap.size := (by omega); have hm1 : w.heap.size + 1 ≠ w3.heap.size := (by omega); have Y3 : Blk w3 w2.heap.size 35 [.slice none 0 0, .slice none 0 0, .slice none 0 0] := ((Blk.new w2 #[.slice none 0 0, .slice none 0 0, .slice none 0 0] 35).ext ((Ext.refl _).drew)).ext h3; have hlt23 : w2.heap.size < w3.heap.size := Y3.lt
  (try go_simp)
  refine hKc.out _ _ ?_ (fun hHeld => ?_) <;> clear hKc Kc
  · (with_reducible first | exact xc6 D0 j2r_0 j2r_1 j2r_2 j2a_0 j2a_1 j2a_2 | exact xc6 (((Ext.refl w2).alloc _).drew) j2r_0 j2r_1 j2r_2 j2a_0 j2a_1 j2a_2 | exact ⟨xr_0, xr_1, xr_2, xa_0, xa_1, xa_2⟩ | exact xc6 (E3.alloc _) j2r_0 j2r_1 j2r_2 j2a_0 j2a_1 j2a_2 | exact ⟨yr_0, yr_1, yr_2, ya_0, ya_1, ya_2⟩ | exact xc6 (E4.alloc _) j2r_0 j2r_1 j2r_2 j2a_0 j2a_1 j2a_2 | exact gc6 (b := w2.heap.size) (grown_setCell (grown_setCell (grown_setCell (grown_refl _ _) _ _) _ _) _ _) hn0 yr_0 hn0 yr_1 hn0 yr_2 hn1 ya_0 hn1 ya_1 hn1 ya_2 | exact gc6 (b := w3.heap.size) (grown_setCell (grown_setCell (grown_setCell (grown_refl _ _) _ _) _ _) _ _) hm0 yr_0 hm0 yr_1 hm0 yr_2 hm1 ya_0 hm1 ya_1 hm1 ya_2)
  refine wpAnyH_ready (rs := [5]) (by kernel_rfl) (by simp) ?_
  refine AllReadyH.cons rfl (fun Kc hKc => ?_) AllReadyH.nil
  go_simp; go_at_call 13
  (with_reducible refine (contractPair_any HR.out HT.out (one_isT HR.out HT.out.uni) keep _ _ _ w3 (ha0.ext (E2.trans E3)) (one_ten HR.out o3) (hk.ext (E2.trans E3))).mono ?_); rintro e4 w4 ⟨v4, rfl, o4, h4⟩; rw [joinL_nil, sum_of_contr] at o4; obtain ⟨up1, un1, uc1, up2, un2, uc2, up3, un3, uc3, rfl⟩ := o4.shape; have E4 : Ext w2 w4 := E3.trans h4; have yr_0 := E4.cell j2r_0; have yr_1 := E4.cell j2r_1; have yr_2 := E4.cell j2r_2; have ya_0 := E4.cell j2a_0; have ya_1 := E4.cell j2a_1; have ya_2 := E4.cell j2a_2; have hE4s := E4.size; have o4m := o4.mono (B' := w2.heap.size) (by omega); have Y4 := Y3.ext h4; have f4_0 := Y4.free 0; have y4_0 := Y4.cell (j := 0) rfl; have f4_1 := Y4.free 1; have y4_1 := Y4.cell (j := 1) rfl; have f4_2 := Y4.free 2; have y4_2 := Y4.cell (j := 2) rfl; have yl4 := Y4.lt; have o4c := o4
  (try go_simp)
  refine hKc.out _ _ ?_ (fun hHeld => ?_) <;> clear hKc Kc
  · (with_reducible first | exact xc6 D0 j2r_0 j2r_1 j2r_2 j2a_0 j2a_1 j2a_2 | exact xc6 (((Ext.refl w2).alloc _).drew) j2r_0 j2r_1 j2r_2 j2a_0 j2a_1 j2a_2 | exact ⟨xr_0, xr_1, xr_2, xa_0, xa_1, xa_2⟩ | exact xc6 (E3.alloc _) j2r_0 j2r_1 j2r_2 j2a_0 j2a_1 j2a_2 | exact ⟨yr_0, yr_1, yr_2, ya_0, ya_1, ya_2⟩ | exact xc6 (E4.alloc _) j2r_0 j2r_1 j2r_2 j2a_0 j2a_1 j2a_2 | exact gc6 (b := w2.heap.size) (grown_setCell (grown_setCell (grown_setCell (grown_refl _ _) _ _) _ _) _ _) hn0 yr_0 hn0 yr_1 hn0 yr_2 hn1 ya_0 hn1 ya_1 hn1 ya_2 | exact gc6 (b := w3.heap.size) (grown_setCell (grown_setCell (grown_setCell (grown_refl _ _) _ _) _ _) _ _) hm0 yr_0 hm0 yr_1 hm0 yr_2 hm1 ya_0 hm1 ya_1 hm1 ya_2)
  refine wpAnyH_take (i := 6) (v := ?_) rfl (by kernel_rfl) (by kernel_rfl) (by kernel_rfl) (fun _ _ _ h => h) (Or.inl ⟨by rfl, ?_⟩) (by assumption) ?_
  rotate_left
  · intro w hSw; (try dsimp only at hSw); go_simp; (try with_reducible rfl)
  (try go_simp)
  refine wpAnyH_take (i := 7) (v := ?_) rfl (by kernel_rfl) (by kernel_rfl) (by kernel_rfl) (fun _ _ _ h => h) (Or.inl ⟨by rfl, ?_⟩) (by assumption) ?_
  rotate_left
  · intro w hSw; (try dsimp only at hSw); go_simp; (try with_reducible rfl)
  (try go_simp)
  refine wpAnyH_take (i := 8) (v := ?_) rfl (by kernel_rfl) (by kernel_rfl) (by kernel_rfl) (fun _ _ _ h => h) (Or.inl ⟨by rfl, ?_⟩) (by assumption) ?_
  rotate_left
  · intro w hSw; (try dsimp only at hSw); go_simp; (try with_reducible rfl)
  (try go_simp)
  refine wpAnyH_ready (rs := [10]) (by kernel_rfl) (by simp) ?_
  refine AllReadyH.cons rfl (fun Kc hKc => ?_) AllReadyH.nil
  go_simp
  refine hKc.out _ _ ?_ (fun hHeld => ?_) <;> clear hKc Kc
  · (with_reducible first | exact xc6 D0 j2r_0 j2r_1 j2r_2 j2a_0 j2a_1 j2a_2 | exact xc6 (((Ext.refl w2).alloc _).drew) j2r_0 j2r_1 j2r_2 j2a_0 j2a_1 j2a_2 | exact ⟨xr_0, xr_1, xr_2, xa_0, xa_1, xa_2⟩ | exact xc6 (E3.alloc _) j2r_0 j2r_1 j2r_2 j2a_0 j2a_1 j2a_2 | exact ⟨yr_0, yr_1, yr_2, ya_0, ya_1, ya_2⟩ | exact xc6 (E4.alloc _) j2r_0 j2r_1 j2r_2 j2a_0 j2a_1 j2a_2 | exact gc6 (b := w2.heap.size) (grown_setCell (grown_setCell (grown_setCell (grown_refl _ _) _ _) _ _) _ _) hn0 yr_0 hn0 yr_1 hn0 yr_2 hn1 ya_0 hn1 ya_1 hn1 ya_2 | exact gc6 (b := w3.heap.size) (grown_setCell (grown_setCell (grown_setCell (grown_refl _ _) _ _) _ _) _ _) hm0 yr_0 hm0 yr_1 hm0 yr_2 hm1 ya_0 hm1 ya_1 hm1 ya_2)
  refine wpAnyH_ready (rs := [11]) (by kernel_rfl) (by simp) ?_
  refine AllReadyH.cons rfl (fun Kc hKc => ?_) AllReadyH.nil
  go_simp
  refine hKc.out _ _ ?_ (fun hHeld => ?_) <;> clear hKc Kc
  · (with_reducible first | exact xc6 D0 j2r_0 j2r_1 j2r_2 j2a_0 j2a_1 j2a_2 | exact xc6 (((Ext.refl w2).alloc _).drew) j2r_0 j2r_1 j2r_2 j2a_0 j2a_1 j2a_2 | exact ⟨xr_0, xr_1, xr_2, xa_0, xa_1, xa_2⟩ | exact xc6 (E3.alloc _) j2r_0 j2r_1 j2r_2 j2a_0 j2a_1 j2a_2 | exact ⟨yr_0, yr_1, yr_2, ya_0, ya_1, ya_2⟩ | exact xc6 (E4.alloc _) j2r_0 j2r_1 j2r_2 j2a_0 j2a_1 j2a_2 | exact gc6 (b := w2.heap.size) (grown_setCell (grown_setCell (grown_setCell (grown_refl _ _) _ _) _ _) _ _) hn0 yr_0 hn0 yr_1 hn0 yr_2 hn1 ya_0 hn1 ya_1 hn1 ya_2 | exact gc6 (b := w3.heap.size) (grown_setCell (grown_setCell (grown_setCell (grown_refl _ _) _ _) _ _) _ _) hm0 yr_0 hm0 yr_1 hm0 yr_2 hm1 ya_0 hm1 ya_1 hm1 ya_2)
  refine wpAnyH_done (by kernel_rfl) ?_ _
  go_wp2_with fail
  go_meet
  exact ⟨w2.heap.size, up1, un1, uc1, up2, un2, uc2, up3, un3, uc3, rfl, ((Y4.set 0 (.slice up1 un1 uc1)).set 1 (.slice up2 un2 uc2)).set 2 (.slice up3 un3 uc3), ((E4.setAt (Nat.le_refl _) _ _).setAt (Nat.le_refl _) _ _).setAt (Nat.le_refl _) _ _, (((o4c.setBelow (p := ⟨w2.heap.size, 0, none⟩) hlt23 _).setBelow (p := ⟨w2.heap.size, 1, none⟩) hlt23 _).setBelow (p := ⟨w2.heap.size, 2, none⟩) hlt23 _).mono (by omega)⟩
 obtain ⟨bu, up1, un1, uc1, up2, un2, uc2, up3, un3, uc3, rfl, BU, E5, o5⟩ := hcut
 have Bz5 := B2z.ext E5
 have f0 := Bz5.free 0
 have f1 := Bz5.free 1
 have f2 := Bz5.free 2
 have z0 := Bz5.cell (j := 0) rfl
 have z1 := Bz5.cell (j := 1) rfl
 have z2 := Bz5.cell (j := 2) rfl
 have y0 := BU.cell (j := 0) rfl
 have y1 := BU.cell (j := 1) rfl
 have y2 := BU.cell (j := 2) rfl
 have lz := Bz5.lt
 have lu := BU.lt
 have hlt : w.heap.size + 1 + 1 < w2.heap.size := by omega
 go_upto_region 4 with fail
 repeat go_step
 refine bodyPost_ret (v := .agg #[.slice up1 un1 uc1, .slice up2 un2 uc2, .slice up3 un3 uc3]) (by simp [results, Tryz.results62, go_sem, *]) rfl ?_
 exact ⟨_, rfl, (((o5.setBelow hlt _).setBelow hlt _).setBelow hlt _).mono (by omega), (((E2.trans E5).setAt (by omega) _ _).setAt (by omega) _ _).setAt (by omega) _ _⟩
end
end Go.Proofs.YtlgjddgajdjllaaGreat
