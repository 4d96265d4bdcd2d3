/- The law 'FnPermuted', walked. -/
import Derived.Deep.RegionHeld3
import Derived.Test.YtabeciopggofkaaQBase
import Derived.Test.YtabeciopggofkaaQPermutedP
import Derived.Test.YtabeciopggofkaaQSortT
import Derived.Test.YtabeciopggofkaaQDrawE
namespace Go.Proofs.Ytabeciopggofkaa
open Go.RowKit
set_option linter.unusedSimpArgs false
set_option linter.unusedVariables false

theorem TenS.labsP {w : World} {a b c : Value} {L D X : List Int} (h : TenS w (.agg #[a, b, c]) L D X) : IntS w a L := by
  obtain ⟨_, _, _, hv, h1, _, _⟩ := h.val
  simp at hv
  obtain ⟨rfl, rfl, rfl⟩ := hv
  exact h1
theorem TenS.dataP {w : World} {a b c : Value} {L D X : List Int} (h : TenS w (.agg #[a, b, c]) L D X) : IntS w c X := by
  obtain ⟨_, _, _, hv, _, _, h3⟩ := h.val
  simp at hv
  obtain ⟨rfl, rfl, rfl⟩ := hv
  exact h3
theorem ints_sameE (v u : Value) (l m : List Int) (w : World) (hl : IntS w v l) (hm : IntS w u m) (e : l = m) : Calls Try.prog 27 #[v, u] w fun e w' => e = .returned (.bool true) ∧ Ext w w' :=
  (ints_same v u l m w hl hm e).mono fun _ _ ⟨he, hn⟩ => ⟨he, hn ▸ Ext.refl w⟩

set_option maxRecDepth 100000 in
set_option maxHeartbeats 8000000 in
theorem walkFnPermuted (v : Value) (l : List Int) (w : World) (hl : ByteS w v l) (hall : ∀ x ∈ l, 0 ≤ x ∧ x ≤ 255) :
    Calls Try.prog 6 #[v] w fun e w' => e = .returned (.bool true) ∧ Ext w w' := by
  obtain ⟨ca, cap, rfl, hc1, hc2⟩ := hl.val
  by_cases big : 1048576 < l.length
  · go_enter Try.func6, Try.ntmps6
    go_wp2
    go_ret
    exact ⟨rfl, (by repeat' (first | (with_reducible exact Ext.refl _) | (with_reducible assumption) | (with_reducible apply Ext.alloc) | (with_reducible apply Ext.drew) | (with_reducible apply Ext.drewN) | (refine Ext.setAt ?_ (by omega) _ _) | (refine Ext.trans ?_ (by assumption))))⟩
  have hC : Code w (.slice ca l.length cap) l := ⟨hl, hall, by omega⟩
  clear hall hl
  go_enter Try.func6, Try.ntmps6
  go_wp2_with fail
  refine (makeRing_any _ l 0 _ hC (by omega)).mono ?_; rintro e1 w1 ⟨k, p, n, rfl, hd, h1⟩
  have HR := Lib.hid (drawn_ok hd); clear hd
  go_wp2_with fail
  generalize hG2 : w1.alloc (.cells #[.int .i64 k, .int .i64 p, .int .i64 n] 24) = w2
  have h2 : Ext w1 w2 := by rw [← hG2]; exact (Ext.refl _).alloc _
  have Br2 : Blk w2 w1.heap.size 24 [.int .i64 k, .int .i64 p, .int .i64 n] := by rw [← hG2]; exact Blk.new w1 #[.int .i64 k, .int .i64 p, .int .i64 n] 24
  clear hG2
  have Br2 := Br2
  have ir0_2 := Br2.cell (j := 0) rfl
  have ir1_2 := Br2.cell (j := 1) rfl
  have ir2_2 := Br2.cell (j := 2) rfl
  have lr_2 := Br2.lt
  refine (makeTensor_any _ l 10 k p n HR.out _ (hC.ext (h1.trans h2)) (by omega)).mono ?_; rintro e3 w3 ⟨vTa, a, Da, Xa, rfl, oa, dT, h3⟩
  obtain ⟨xsa, rfl, rfl, hT⟩ := drawn_isT HR.out dT
  have Ta := Lib.hid hT
  have hla : a.length ≤ 3 := by have := dT.labs.len; omega
  clear dT hT
  obtain ⟨ap1, an1, ac1, ap2, an2, ac2, ap3, an3, ac3, rfl⟩ := oa.shape
  obtain ⟨_, _, hvv, _, _⟩ := oa.tens.labsP.val
  cases hvv
  clear ir0_2 ir1_2 ir2_2 lr_2
  have Br3 := (Br2.ext h3)
  clear Br2
  have ir0_3 := Br3.cell (j := 0) rfl
  have ir1_3 := Br3.cell (j := 1) rfl
  have ir2_3 := Br3.cell (j := 2) rfl
  have lr_3 := Br3.lt
  go_wp2_with fail
  generalize hG4 : w3.alloc (.cells #[.slice ap1 a.length ac1, .slice ap2 an2 ac2, .slice ap3 an3 ac3] 31) = w4
  have h4 : Ext w3 w4 := by rw [← hG4]; exact (Ext.refl _).alloc _
  have Ba4 : Blk w4 w3.heap.size 31 [.slice ap1 a.length ac1, .slice ap2 an2 ac2, .slice ap3 an3 ac3] := by rw [← hG4]; exact Blk.new w3 #[.slice ap1 a.length ac1, .slice ap2 an2 ac2, .slice ap3 an3 ac3] 31
  clear hG4
  clear ir0_3 ir1_3 ir2_3 lr_3
  have Br4 := (Br3.ext h4)
  clear Br3
  have ir0_4 := Br4.cell (j := 0) rfl
  have ir1_4 := Br4.cell (j := 1) rfl
  have ir2_4 := Br4.cell (j := 2) rfl
  have lr_4 := Br4.lt
  have Ba4 := Ba4
  have ia0_4 := Ba4.cell (j := 0) rfl
  have ia1_4 := Ba4.cell (j := 1) rfl
  have ia2_4 := Ba4.cell (j := 2) rfl
  have la_4 := Ba4.lt
  have D0 : Ext w4 w4.drew := (Ext.refl _).drew
  have hn0 : w1.heap.size ≠ w4.heap.size := by omega
  have hn1 : w3.heap.size ≠ w4.heap.size := by omega
  go_upto_region 5 with fail
  go_cut [5, 6] from 16 (fun q ok wx => ∃ bu up1 un1 uc1 up2 un2 uc2 up3 un3 uc3 M, q = .pointer (some ⟨bu, 0, none⟩) ∧ ok = .bool true ∧ Blk wx bu 31 [.slice up1 un1 uc1, .slice up2 un2 uc2, .slice up3 un3 uc3] ∧ Ext w4 wx ∧ OwnT wx w4.heap.size (.agg #[.slice up1 un1 uc1, .slice up2 un2 uc2, .slice up3 un3 uc3]) M (M.map dimOf) (flat (permXs HR.out dimOf a M xsa)) ∧ M.Perm a)
  case first =>
    refine wp_region_held_drew (S := fun w' => w'.cell? ⟨w1.heap.size, 0, none⟩ = some (.int .i64 k) ∧ w'.cell? ⟨w1.heap.size, 1, none⟩ = some (.int .i64 p) ∧ w'.cell? ⟨w1.heap.size, 2, none⟩ = some (.int .i64 n) ∧ w'.cell? ⟨w3.heap.size, 0, none⟩ = some (.slice ap1 a.length ac1) ∧ w'.cell? ⟨w3.heap.size, 1, none⟩ = some (.slice ap2 an2 ac2) ∧ w'.cell? ⟨w3.heap.size, 2, none⟩ = some (.slice ap3 an3 ac3)) (by kernel_rfl) ?_ (fun hHeld => ?_)
    · (first | (with_reducible exact ⟨D0.cell ir0_4, D0.cell ir1_4, D0.cell ir2_4, D0.cell ia0_4, D0.cell ia1_4, D0.cell ia2_4⟩) | (with_reducible exact ⟨(((Ext.refl w4).alloc _).drew).cell ir0_4, (((Ext.refl w4).alloc _).drew).cell ir1_4, (((Ext.refl w4).alloc _).drew).cell ir2_4, (((Ext.refl w4).alloc _).drew).cell ia0_4, (((Ext.refl w4).alloc _).drew).cell ia1_4, (((Ext.refl w4).alloc _).drew).cell ia2_4⟩) | (with_reducible exact ⟨x_0, x_1, x_2, x_3, x_4, x_5⟩) | (with_reducible exact ⟨(Ea.alloc _).cell ir0_4, (Ea.alloc _).cell ir1_4, (Ea.alloc _).cell ir2_4, (Ea.alloc _).cell ia0_4, (Ea.alloc _).cell ia1_4, (Ea.alloc _).cell ia2_4⟩) | (with_reducible exact ⟨y_0, y_1, y_2, y_3, y_4, y_5⟩) | (with_reducible exact ⟨(Eb.alloc _).cell ir0_4, (Eb.alloc _).cell ir1_4, (Eb.alloc _).cell ir2_4, (Eb.alloc _).cell ia0_4, (Eb.alloc _).cell ia1_4, (Eb.alloc _).cell ia2_4⟩) | (with_reducible exact ⟨grown_cell (b := w4.heap.size) (grown_setCell (grown_setCell (grown_setCell (grown_refl _ _) _ _) _ _) _ _) hn0 y_0, grown_cell (b := w4.heap.size) (grown_setCell (grown_setCell (grown_setCell (grown_refl _ _) _ _) _ _) _ _) hn0 y_1, grown_cell (b := w4.heap.size) (grown_setCell (grown_setCell (grown_setCell (grown_refl _ _) _ _) _ _) _ _) hn0 y_2, grown_cell (b := w4.heap.size) (grown_setCell (grown_setCell (grown_setCell (grown_refl _ _) _ _) _ _) _ _) hn1 y_3, grown_cell (b := w4.heap.size) (grown_setCell (grown_setCell (grown_setCell (grown_refl _ _) _ _) _ _) _ _) hn1 y_4, grown_cell (b := w4.heap.size) (grown_setCell (grown_setCell (grown_setCell (grown_refl _ _) _ _) _ _) _ _) hn1 y_5⟩) | (with_reducible exact ⟨grown_cell (b := wa.heap.size) (grown_setCell (grown_setCell (grown_setCell (grown_refl _ _) _ _) _ _) _ _) hm0 y_0, grown_cell (b := wa.heap.size) (grown_setCell (grown_setCell (grown_setCell (grown_refl _ _) _ _) _ _) _ _) hm0 y_1, grown_cell (b := wa.heap.size) (grown_setCell (grown_setCell (grown_setCell (grown_refl _ _) _ _) _ _) _ _) hm0 y_2, grown_cell (b := wa.heap.size) (grown_setCell (grown_setCell (grown_setCell (grown_refl _ _) _ _) _ _) _ _) hm1 y_3, grown_cell (b := wa.heap.size) (grown_setCell (grown_setCell (grown_setCell (grown_refl _ _) _ _) _ _) _ _) hm1 y_4, grown_cell (b := wa.heap.size) (grown_setCell (grown_setCell (grown_setCell (grown_refl _ _) _ _) _ _) _ _) hm1 y_5⟩))
    refine wpAnyH_take (i := 0) (v := ?_) rfl (by kernel_rfl) (by kernel_rfl) (by kernel_rfl) (fun _ _ _ h => h) (Or.inl ⟨by rfl, ?_⟩) (by assumption) ?_
    rotate_left
    · intro w hSw; (try dsimp only at hSw); go_simp; (try with_reducible rfl)
    (try go_simp)
    refine wpAnyH_take (i := 1) (v := ?_) rfl (by kernel_rfl) (by kernel_rfl) (by kernel_rfl) (fun _ _ _ h => h) (Or.inl ⟨by rfl, ?_⟩) (by assumption) ?_
    rotate_left
    · intro w hSw; (try dsimp only at hSw); go_simp; (try with_reducible rfl)
    (try go_simp)
    refine wpAnyH_take (i := 2) (v := ?_) rfl (by kernel_rfl) (by kernel_rfl) (by kernel_rfl) (fun _ _ _ h => h) (Or.inl ⟨by rfl, ?_⟩) (by assumption) ?_
    rotate_left
    · intro w hSw; (try dsimp only at hSw); go_simp; (try with_reducible rfl)
    (try go_simp)
    refine wpAnyH_take (i := 3) (v := ?_) rfl (by kernel_rfl) (by kernel_rfl) (by kernel_rfl) (fun _ _ _ h => h) (Or.inl ⟨by rfl, ?_⟩) (by assumption) ?_
    rotate_left
    · intro w hSw; (try dsimp only at hSw); go_simp; (try with_reducible rfl)
    (try go_simp)
    refine wpAnyH_take (i := 4) (v := ?_) rfl (by kernel_rfl) (by kernel_rfl) (by kernel_rfl) (fun _ _ _ h => h) (Or.inl ⟨by rfl, ?_⟩) (by assumption) ?_
    rotate_left
    · intro w hSw; (try dsimp only at hSw); go_simp; (try with_reducible rfl)
    (try go_simp)
    refine wpAnyH_ready (rs := [5, 10]) (by kernel_rfl) (by simp) ?_
    refine AllReadyH.cons rfl (fun Kc hKc => ?_) ?_
    · skip
      go_simp; go_at_call 24
      (with_reducible refine (makeList_any _ _ l a 60 w4.drew ((hC.ext (h1.trans (h2.trans (h3.trans h4)))).ext D0) ((oa.tens.ext h4).labsP.ext D0) (by omega) (by omega)).mono ?_); rintro e3 wa ⟨vm, M, rfl, om, hp, ha⟩; have Ea : Ext w4 wa := D0.trans ha; have x_0 := Ea.cell ir0_4; have x_1 := Ea.cell ir1_4; have x_2 := Ea.cell ir2_4; have x_3 := Ea.cell ia0_4; have x_4 := Ea.cell ia1_4; have x_5 := Ea.cell ia2_4; have hEas := Ea.size; obtain ⟨am, cm, rfl, _, _⟩ := om.ints.val; have hm0 : w1.heap.size ≠ wa.heap.size := (by omega); have hm1 : w3.heap.size ≠ wa.heap.size := (by omega)
      (try go_simp)
      refine hKc.out _ _ ?_ (fun hHeld => ?_) <;> clear hKc Kc
      · (first | (with_reducible exact ⟨D0.cell ir0_4, D0.cell ir1_4, D0.cell ir2_4, D0.cell ia0_4, D0.cell ia1_4, D0.cell ia2_4⟩) | (with_reducible exact ⟨(((Ext.refl w4).alloc _).drew).cell ir0_4, (((Ext.refl w4).alloc _).drew).cell ir1_4, (((Ext.refl w4).alloc _).drew).cell ir2_4, (((Ext.refl w4).alloc _).drew).cell ia0_4, (((Ext.refl w4).alloc _).drew).cell ia1_4, (((Ext.refl w4).alloc _).drew).cell ia2_4⟩) | (with_reducible exact ⟨x_0, x_1, x_2, x_3, x_4, x_5⟩) | (with_reducible exact ⟨(Ea.alloc _).cell ir0_4, (Ea.alloc _).cell ir1_4, (Ea.alloc _).cell ir2_4, (Ea.alloc _).cell ia0_4, (Ea.alloc _).cell ia1_4, (Ea.alloc _).cell ia2_4⟩) | (with_reducible exact ⟨y_0, y_1, y_2, y_3, y_4, y_5⟩) | (with_reducible exact ⟨(Eb.alloc _).cell ir0_4, (Eb.alloc _).cell ir1_4, (Eb.alloc _).cell ir2_4, (Eb.alloc _).cell ia0_4, (Eb.alloc _).cell ia1_4, (Eb.alloc _).cell ia2_4⟩) | (with_reducible exact ⟨grown_cell (b := w4.heap.size) (grown_setCell (grown_setCell (grown_setCell (grown_refl _ _) _ _) _ _) _ _) hn0 y_0, grown_cell (b := w4.heap.size) (grown_setCell (grown_setCell (grown_setCell (grown_refl _ _) _ _) _ _) _ _) hn0 y_1, grown_cell (b := w4.heap.size) (grown_setCell (grown_setCell (grown_setCell (grown_refl _ _) _ _) _ _) _ _) hn0 y_2, grown_cell (b := w4.heap.size) (grown_setCell (grown_setCell (grown_setCell (grown_refl _ _) _ _) _ _) _ _) hn1 y_3, grown_cell (b := w4.heap.size) (grown_setCell (grown_setCell (grown_setCell (grown_refl _ _) _ _) _ _) _ _) hn1 y_4, grown_cell (b := w4.heap.size) (grown_setCell (grown_setCell (grown_setCell (grown_refl _ _) _ _) _ _) _ _) hn1 y_5⟩) | (with_reducible exact ⟨grown_cell (b := wa.heap.size) (grown_setCell (grown_setCell (grown_setCell (grown_refl _ _) _ _) _ _) _ _) hm0 y_0, grown_cell (b := wa.heap.size) (grown_setCell (grown_setCell (grown_setCell (grown_refl _ _) _ _) _ _) _ _) hm0 y_1, grown_cell (b := wa.heap.size) (grown_setCell (grown_setCell (grown_setCell (grown_refl _ _) _ _) _ _) _ _) hm0 y_2, grown_cell (b := wa.heap.size) (grown_setCell (grown_setCell (grown_setCell (grown_refl _ _) _ _) _ _) _ _) hm1 y_3, grown_cell (b := wa.heap.size) (grown_setCell (grown_setCell (grown_setCell (grown_refl _ _) _ _) _ _) _ _) hm1 y_4, grown_cell (b := wa.heap.size) (grown_setCell (grown_setCell (grown_setCell (grown_refl _ _) _ _) _ _) _ _) hm1 y_5⟩))
      refine wpAnyH_ready (rs := [6, 10]) (by kernel_rfl) (by simp) ?_
      refine AllReadyH.cons rfl (fun Kc hKc => ?_) ?_
      · skip
        go_simp; go_at_call 23
        (with_reducible refine (permuteTensor_any HR.out Ta.out hp.symm _ _ wa ((oa.tens.ext h4).ext Ea) (om.ints.ext (Ext.refl wa))).mono ?_); rintro e4 wb ⟨v4, rfl, ou, hb⟩; obtain ⟨up1, un1, uc1, up2, un2, uc2, up3, un3, uc3, rfl⟩ := ou.shape; have Eb : Ext w4 wb := Ea.trans hb; have y_0 := Eb.cell ir0_4; have y_1 := Eb.cell ir1_4; have y_2 := Eb.cell ir2_4; have y_3 := Eb.cell ia0_4; have y_4 := Eb.cell ia1_4; have y_5 := Eb.cell ia2_4; have hEbs := Eb.size; have o4m := ou.mono (B' := w4.heap.size) (by omega)
        (try go_simp)
        refine hKc.out _ _ ?_ (fun hHeld => ?_) <;> clear hKc Kc
        · (first | (with_reducible exact ⟨D0.cell ir0_4, D0.cell ir1_4, D0.cell ir2_4, D0.cell ia0_4, D0.cell ia1_4, D0.cell ia2_4⟩) | (with_reducible exact ⟨(((Ext.refl w4).alloc _).drew).cell ir0_4, (((Ext.refl w4).alloc _).drew).cell ir1_4, (((Ext.refl w4).alloc _).drew).cell ir2_4, (((Ext.refl w4).alloc _).drew).cell ia0_4, (((Ext.refl w4).alloc _).drew).cell ia1_4, (((Ext.refl w4).alloc _).drew).cell ia2_4⟩) | (with_reducible exact ⟨x_0, x_1, x_2, x_3, x_4, x_5⟩) | (with_reducible exact ⟨(Ea.alloc _).cell ir0_4, (Ea.alloc _).cell ir1_4, (Ea.alloc _).cell ir2_4, (Ea.alloc _).cell ia0_4, (Ea.alloc _).cell ia1_4, (Ea.alloc _).cell ia2_4⟩) | (with_reducible exact ⟨y_0, y_1, y_2, y_3, y_4, y_5⟩) | (with_reducible exact ⟨(Eb.alloc _).cell ir0_4, (Eb.alloc _).cell ir1_4, (Eb.alloc _).cell ir2_4, (Eb.alloc _).cell ia0_4, (Eb.alloc _).cell ia1_4, (Eb.alloc _).cell ia2_4⟩) | (with_reducible exact ⟨grown_cell (b := w4.heap.size) (grown_setCell (grown_setCell (grown_setCell (grown_refl _ _) _ _) _ _) _ _) hn0 y_0, grown_cell (b := w4.heap.size) (grown_setCell (grown_setCell (grown_setCell (grown_refl _ _) _ _) _ _) _ _) hn0 y_1, grown_cell (b := w4.heap.size) (grown_setCell (grown_setCell (grown_setCell (grown_refl _ _) _ _) _ _) _ _) hn0 y_2, grown_cell (b := w4.heap.size) (grown_setCell (grown_setCell (grown_setCell (grown_refl _ _) _ _) _ _) _ _) hn1 y_3, grown_cell (b := w4.heap.size) (grown_setCell (grown_setCell (grown_setCell (grown_refl _ _) _ _) _ _) _ _) hn1 y_4, grown_cell (b := w4.heap.size) (grown_setCell (grown_setCell (grown_setCell (grown_refl _ _) _ _) _ _) _ _) hn1 y_5⟩) | (with_reducible exact ⟨grown_cell (b := wa.heap.size) (grown_setCell (grown_setCell (grown_setCell (grown_refl _ _) _ _) _ _) _ _) hm0 y_0, grown_cell (b := wa.heap.size) (grown_setCell (grown_setCell (grown_setCell (grown_refl _ _) _ _) _ _) _ _) hm0 y_1, grown_cell (b := wa.heap.size) (grown_setCell (grown_setCell (grown_setCell (grown_refl _ _) _ _) _ _) _ _) hm0 y_2, grown_cell (b := wa.heap.size) (grown_setCell (grown_setCell (grown_setCell (grown_refl _ _) _ _) _ _) _ _) hm1 y_3, grown_cell (b := wa.heap.size) (grown_setCell (grown_setCell (grown_setCell (grown_refl _ _) _ _) _ _) _ _) hm1 y_4, grown_cell (b := wa.heap.size) (grown_setCell (grown_setCell (grown_setCell (grown_refl _ _) _ _) _ _) _ _) hm1 y_5⟩))
        refine wpAnyH_take (i := 7) (v := ?_) rfl (by kernel_rfl) (by kernel_rfl) (by kernel_rfl) (fun _ _ _ h => h) (Or.inl ⟨by rfl, ?_⟩) (by assumption) ?_
        rotate_left
        · intro w hSw; (try dsimp only at hSw); go_simp; (try with_reducible rfl)
        (try go_simp)
        refine wpAnyH_take (i := 8) (v := ?_) rfl (by kernel_rfl) (by kernel_rfl) (by kernel_rfl) (fun _ _ _ h => h) (Or.inl ⟨by rfl, ?_⟩) (by assumption) ?_
        rotate_left
        · intro w hSw; (try dsimp only at hSw); go_simp; (try with_reducible rfl)
        (try go_simp)
        refine wpAnyH_take (i := 9) (v := ?_) rfl (by kernel_rfl) (by kernel_rfl) (by kernel_rfl) (fun _ _ _ h => h) (Or.inl ⟨by rfl, ?_⟩) (by assumption) ?_
        rotate_left
        · intro w hSw; (try dsimp only at hSw); go_simp; (try with_reducible rfl)
        (try go_simp)
        refine wpAnyH_ready (rs := [10]) (by kernel_rfl) (by simp) ?_
        refine AllReadyH.cons rfl (fun Kc hKc => ?_) AllReadyH.nil
        go_simp
        refine hKc.out _ _ ?_ (fun hHeld => ?_) <;> clear hKc Kc
        · (first | (with_reducible exact ⟨D0.cell ir0_4, D0.cell ir1_4, D0.cell ir2_4, D0.cell ia0_4, D0.cell ia1_4, D0.cell ia2_4⟩) | (with_reducible exact ⟨(((Ext.refl w4).alloc _).drew).cell ir0_4, (((Ext.refl w4).alloc _).drew).cell ir1_4, (((Ext.refl w4).alloc _).drew).cell ir2_4, (((Ext.refl w4).alloc _).drew).cell ia0_4, (((Ext.refl w4).alloc _).drew).cell ia1_4, (((Ext.refl w4).alloc _).drew).cell ia2_4⟩) | (with_reducible exact ⟨x_0, x_1, x_2, x_3, x_4, x_5⟩) | (with_reducible exact ⟨(Ea.alloc _).cell ir0_4, (Ea.alloc _).cell ir1_4, (Ea.alloc _).cell ir2_4, (Ea.alloc _).cell ia0_4, (Ea.alloc _).cell ia1_4, (Ea.alloc _).cell ia2_4⟩) | (with_reducible exact ⟨y_0, y_1, y_2, y_3, y_4, y_5⟩) | (with_reducible exact ⟨(Eb.alloc _).cell ir0_4, (Eb.alloc _).cell ir1_4, (Eb.alloc _).cell ir2_4, (Eb.alloc _).cell ia0_4, (Eb.alloc _).cell ia1_4, (Eb.alloc _).cell ia2_4⟩) | (with_reducible exact ⟨grown_cell (b := w4.heap.size) (grown_setCell (grown_setCell (grown_setCell (grown_refl _ _) _ _) _ _) _ _) hn0 y_0, grown_cell (b := w4.heap.size) (grown_setCell (grown_setCell (grown_setCell (grown_refl _ _) _ _) _ _) _ _) hn0 y_1, grown_cell (b := w4.heap.size) (grown_setCell (grown_setCell (grown_setCell (grown_refl _ _) _ _) _ _) _ _) hn0 y_2, grown_cell (b := w4.heap.size) (grown_setCell (grown_setCell (grown_setCell (grown_refl _ _) _ _) _ _) _ _) hn1 y_3, grown_cell (b := w4.heap.size) (grown_setCell (grown_setCell (grown_setCell (grown_refl _ _) _ _) _ _) _ _) hn1 y_4, grown_cell (b := w4.heap.size) (grown_setCell (grown_setCell (grown_setCell (grown_refl _ _) _ _) _ _) _ _) hn1 y_5⟩) | (with_reducible exact ⟨grown_cell (b := wa.heap.size) (grown_setCell (grown_setCell (grown_setCell (grown_refl _ _) _ _) _ _) _ _) hm0 y_0, grown_cell (b := wa.heap.size) (grown_setCell (grown_setCell (grown_setCell (grown_refl _ _) _ _) _ _) _ _) hm0 y_1, grown_cell (b := wa.heap.size) (grown_setCell (grown_setCell (grown_setCell (grown_refl _ _) _ _) _ _) _ _) hm0 y_2, grown_cell (b := wa.heap.size) (grown_setCell (grown_setCell (grown_setCell (grown_refl _ _) _ _) _ _) _ _) hm1 y_3, grown_cell (b := wa.heap.size) (grown_setCell (grown_setCell (grown_setCell (grown_refl _ _) _ _) _ _) _ _) hm1 y_4, grown_cell (b := wa.heap.size) (grown_setCell (grown_setCell (grown_setCell (grown_refl _ _) _ _) _ _) _ _) hm1 y_5⟩))
        refine wpAnyH_ready (rs := [11]) (by kernel_rfl) (by simp) ?_
        refine AllReadyH.cons rfl (fun Kc hKc => ?_) AllReadyH.nil
        go_simp
        refine hKc.out _ _ ?_ (fun hHeld => ?_) <;> clear hKc Kc
        · (first | (with_reducible exact ⟨D0.cell ir0_4, D0.cell ir1_4, D0.cell ir2_4, D0.cell ia0_4, D0.cell ia1_4, D0.cell ia2_4⟩) | (with_reducible exact ⟨(((Ext.refl w4).alloc _).drew).cell ir0_4, (((Ext.refl w4).alloc _).drew).cell ir1_4, (((Ext.refl w4).alloc _).drew).cell ir2_4, (((Ext.refl w4).alloc _).drew).cell ia0_4, (((Ext.refl w4).alloc _).drew).cell ia1_4, (((Ext.refl w4).alloc _).drew).cell ia2_4⟩) | (with_reducible exact ⟨x_0, x_1, x_2, x_3, x_4, x_5⟩) | (with_reducible exact ⟨(Ea.alloc _).cell ir0_4, (Ea.alloc _).cell ir1_4, (Ea.alloc _).cell ir2_4, (Ea.alloc _).cell ia0_4, (Ea.alloc _).cell ia1_4, (Ea.alloc _).cell ia2_4⟩) | (with_reducible exact ⟨y_0, y_1, y_2, y_3, y_4, y_5⟩) | (with_reducible exact ⟨(Eb.alloc _).cell ir0_4, (Eb.alloc _).cell ir1_4, (Eb.alloc _).cell ir2_4, (Eb.alloc _).cell ia0_4, (Eb.alloc _).cell ia1_4, (Eb.alloc _).cell ia2_4⟩) | (with_reducible exact ⟨grown_cell (b := w4.heap.size) (grown_setCell (grown_setCell (grown_setCell (grown_refl _ _) _ _) _ _) _ _) hn0 y_0, grown_cell (b := w4.heap.size) (grown_setCell (grown_setCell (grown_setCell (grown_refl _ _) _ _) _ _) _ _) hn0 y_1, grown_cell (b := w4.heap.size) (grown_setCell (grown_setCell (grown_setCell (grown_refl _ _) _ _) _ _) _ _) hn0 y_2, grown_cell (b := w4.heap.size) (grown_setCell (grown_setCell (grown_setCell (grown_refl _ _) _ _) _ _) _ _) hn1 y_3, grown_cell (b := w4.heap.size) (grown_setCell (grown_setCell (grown_setCell (grown_refl _ _) _ _) _ _) _ _) hn1 y_4, grown_cell (b := w4.heap.size) (grown_setCell (grown_setCell (grown_setCell (grown_refl _ _) _ _) _ _) _ _) hn1 y_5⟩) | (with_reducible exact ⟨grown_cell (b := wa.heap.size) (grown_setCell (grown_setCell (grown_setCell (grown_refl _ _) _ _) _ _) _ _) hm0 y_0, grown_cell (b := wa.heap.size) (grown_setCell (grown_setCell (grown_setCell (grown_refl _ _) _ _) _ _) _ _) hm0 y_1, grown_cell (b := wa.heap.size) (grown_setCell (grown_setCell (grown_setCell (grown_refl _ _) _ _) _ _) _ _) hm0 y_2, grown_cell (b := wa.heap.size) (grown_setCell (grown_setCell (grown_setCell (grown_refl _ _) _ _) _ _) _ _) hm1 y_3, grown_cell (b := wa.heap.size) (grown_setCell (grown_setCell (grown_setCell (grown_refl _ _) _ _) _ _) _ _) hm1 y_4, grown_cell (b := wa.heap.size) (grown_setCell (grown_setCell (grown_setCell (grown_refl _ _) _ _) _ _) _ _) hm1 y_5⟩))
        refine wpAnyH_ready (rs := [12]) (by kernel_rfl) (by simp) ?_
        refine AllReadyH.cons rfl (fun Kc hKc => ?_) AllReadyH.nil
        go_simp
        refine hKc.out _ _ ?_ (fun hHeld => ?_) <;> clear hKc Kc
        · (first | (with_reducible exact ⟨D0.cell ir0_4, D0.cell ir1_4, D0.cell ir2_4, D0.cell ia0_4, D0.cell ia1_4, D0.cell ia2_4⟩) | (with_reducible exact ⟨(((Ext.refl w4).alloc _).drew).cell ir0_4, (((Ext.refl w4).alloc _).drew).cell ir1_4, (((Ext.refl w4).alloc _).drew).cell ir2_4, (((Ext.refl w4).alloc _).drew).cell ia0_4, (((Ext.refl w4).alloc _).drew).cell ia1_4, (((Ext.refl w4).alloc _).drew).cell ia2_4⟩) | (with_reducible exact ⟨x_0, x_1, x_2, x_3, x_4, x_5⟩) | (with_reducible exact ⟨(Ea.alloc _).cell ir0_4, (Ea.alloc _).cell ir1_4, (Ea.alloc _).cell ir2_4, (Ea.alloc _).cell ia0_4, (Ea.alloc _).cell ia1_4, (Ea.alloc _).cell ia2_4⟩) | (with_reducible exact ⟨y_0, y_1, y_2, y_3, y_4, y_5⟩) | (with_reducible exact ⟨(Eb.alloc _).cell ir0_4, (Eb.alloc _).cell ir1_4, (Eb.alloc _).cell ir2_4, (Eb.alloc _).cell ia0_4, (Eb.alloc _).cell ia1_4, (Eb.alloc _).cell ia2_4⟩) | (with_reducible exact ⟨grown_cell (b := w4.heap.size) (grown_setCell (grown_setCell (grown_setCell (grown_refl _ _) _ _) _ _) _ _) hn0 y_0, grown_cell (b := w4.heap.size) (grown_setCell (grown_setCell (grown_setCell (grown_refl _ _) _ _) _ _) _ _) hn0 y_1, grown_cell (b := w4.heap.size) (grown_setCell (grown_setCell (grown_setCell (grown_refl _ _) _ _) _ _) _ _) hn0 y_2, grown_cell (b := w4.heap.size) (grown_setCell (grown_setCell (grown_setCell (grown_refl _ _) _ _) _ _) _ _) hn1 y_3, grown_cell (b := w4.heap.size) (grown_setCell (grown_setCell (grown_setCell (grown_refl _ _) _ _) _ _) _ _) hn1 y_4, grown_cell (b := w4.heap.size) (grown_setCell (grown_setCell (grown_setCell (grown_refl _ _) _ _) _ _) _ _) hn1 y_5⟩) | (with_reducible exact ⟨grown_cell (b := wa.heap.size) (grown_setCell (grown_setCell (grown_setCell (grown_refl _ _) _ _) _ _) _ _) hm0 y_0, grown_cell (b := wa.heap.size) (grown_setCell (grown_setCell (grown_setCell (grown_refl _ _) _ _) _ _) _ _) hm0 y_1, grown_cell (b := wa.heap.size) (grown_setCell (grown_setCell (grown_setCell (grown_refl _ _) _ _) _ _) _ _) hm0 y_2, grown_cell (b := wa.heap.size) (grown_setCell (grown_setCell (grown_setCell (grown_refl _ _) _ _) _ _) _ _) hm1 y_3, grown_cell (b := wa.heap.size) (grown_setCell (grown_setCell (grown_setCell (grown_refl _ _) _ _) _ _) _ _) hm1 y_4, grown_cell (b := wa.heap.size) (grown_setCell (grown_setCell (grown_setCell (grown_refl _ _) _ _) _ _) _ _) hm1 y_5⟩))
        refine wpAnyH_done (by kernel_rfl) ?_ _
        go_wp2_with fail
        go_meet
        exact ⟨wb.heap.size, up1, un1, uc1, up2, un2, uc2, up3, un3, uc3, M, rfl, rfl, Blk.new wb #[.slice up1 un1 uc1, .slice up2 un2 uc2, .slice up3 un3 uc3] _, Eb.alloc _, o4m.ext ((Ext.refl _).alloc _), hp⟩
      refine AllReadyH.cons rfl (fun Kc hKc => ?_) AllReadyH.nil
      go_simp
      refine hKc.out _ _ ?_ (fun hHeld => ?_) <;> clear hKc Kc
      · (first | (with_reducible exact ⟨D0.cell ir0_4, D0.cell ir1_4, D0.cell ir2_4, D0.cell ia0_4, D0.cell ia1_4, D0.cell ia2_4⟩) | (with_reducible exact ⟨(((Ext.refl w4).alloc _).drew).cell ir0_4, (((Ext.refl w4).alloc _).drew).cell ir1_4, (((Ext.refl w4).alloc _).drew).cell ir2_4, (((Ext.refl w4).alloc _).drew).cell ia0_4, (((Ext.refl w4).alloc _).drew).cell ia1_4, (((Ext.refl w4).alloc _).drew).cell ia2_4⟩) | (with_reducible exact ⟨x_0, x_1, x_2, x_3, x_4, x_5⟩) | (with_reducible exact ⟨(Ea.alloc _).cell ir0_4, (Ea.alloc _).cell ir1_4, (Ea.alloc _).cell ir2_4, (Ea.alloc _).cell ia0_4, (Ea.alloc _).cell ia1_4, (Ea.alloc _).cell ia2_4⟩) | (with_reducible exact ⟨y_0, y_1, y_2, y_3, y_4, y_5⟩) | (with_reducible exact ⟨(Eb.alloc _).cell ir0_4, (Eb.alloc _).cell ir1_4, (Eb.alloc _).cell ir2_4, (Eb.alloc _).cell ia0_4, (Eb.alloc _).cell ia1_4, (Eb.alloc _).cell ia2_4⟩) | (with_reducible exact ⟨grown_cell (b := w4.heap.size) (grown_setCell (grown_setCell (grown_setCell (grown_refl _ _) _ _) _ _) _ _) hn0 y_0, grown_cell (b := w4.heap.size) (grown_setCell (grown_setCell (grown_setCell (grown_refl _ _) _ _) _ _) _ _) hn0 y_1, grown_cell (b := w4.heap.size) (grown_setCell (grown_setCell (grown_setCell (grown_refl _ _) _ _) _ _) _ _) hn0 y_2, grown_cell (b := w4.heap.size) (grown_setCell (grown_setCell (grown_setCell (grown_refl _ _) _ _) _ _) _ _) hn1 y_3, grown_cell (b := w4.heap.size) (grown_setCell (grown_setCell (grown_setCell (grown_refl _ _) _ _) _ _) _ _) hn1 y_4, grown_cell (b := w4.heap.size) (grown_setCell (grown_setCell (grown_setCell (grown_refl _ _) _ _) _ _) _ _) hn1 y_5⟩) | (with_reducible exact ⟨grown_cell (b := wa.heap.size) (grown_setCell (grown_setCell (grown_setCell (grown_refl _ _) _ _) _ _) _ _) hm0 y_0, grown_cell (b := wa.heap.size) (grown_setCell (grown_setCell (grown_setCell (grown_refl _ _) _ _) _ _) _ _) hm0 y_1, grown_cell (b := wa.heap.size) (grown_setCell (grown_setCell (grown_setCell (grown_refl _ _) _ _) _ _) _ _) hm0 y_2, grown_cell (b := wa.heap.size) (grown_setCell (grown_setCell (grown_setCell (grown_refl _ _) _ _) _ _) _ _) hm1 y_3, grown_cell (b := wa.heap.size) (grown_setCell (grown_setCell (grown_setCell (grown_refl _ _) _ _) _ _) _ _) hm1 y_4, grown_cell (b := wa.heap.size) (grown_setCell (grown_setCell (grown_setCell (grown_refl _ _) _ _) _ _) _ _) hm1 y_5⟩))
      refine wpAnyH_ready (rs := [6]) (by kernel_rfl) (by simp) ?_
      refine AllReadyH.cons rfl (fun Kc hKc => ?_) AllReadyH.nil
      go_simp; go_at_call 23
      (with_reducible refine (permuteTensor_any HR.out Ta.out hp.symm _ _ (wa.alloc (.cells #[.slice none 0 0, .slice none 0 0, .slice none 0 0] 31)) ((oa.tens.ext h4).ext (Ea.alloc _)) (om.ints.ext ((Ext.refl wa).alloc _))).mono ?_); rintro e4 wb ⟨v4, rfl, ou, hb⟩; obtain ⟨up1, un1, uc1, up2, un2, uc2, up3, un3, uc3, rfl⟩ := ou.shape; have Eb : Ext w4 wb := (Ea.alloc _).trans hb; have y_0 := Eb.cell ir0_4; have y_1 := Eb.cell ir1_4; have y_2 := Eb.cell ir2_4; have y_3 := Eb.cell ia0_4; have y_4 := Eb.cell ia1_4; have y_5 := Eb.cell ia2_4; have hEbs := Eb.size; have o4m := ou.mono (B' := w4.heap.size) (by simp; omega); have Yb : Blk wb wa.heap.size 31 [.slice none 0 0, .slice none 0 0, .slice none 0 0] := (Blk.new wa #[.slice none 0 0, .slice none 0 0, .slice none 0 0] 31).ext hb; have fb_0 := Yb.free 0; have yb_0 := Yb.cell (j := 0) rfl; have fb_1 := Yb.free 1; have yb_1 := Yb.cell (j := 1) rfl; have fb_2 := Yb.free 2; have yb_2 := Yb.cell (j := 2) rfl; have ylb := Yb.lt
      (try go_simp)
      refine hKc.out _ _ ?_ (fun hHeld => ?_) <;> clear hKc Kc
      · (first | (with_reducible exact ⟨D0.cell ir0_4, D0.cell ir1_4, D0.cell ir2_4, D0.cell ia0_4, D0.cell ia1_4, D0.cell ia2_4⟩) | (with_reducible exact ⟨(((Ext.refl w4).alloc _).drew).cell ir0_4, (((Ext.refl w4).alloc _).drew).cell ir1_4, (((Ext.refl w4).alloc _).drew).cell ir2_4, (((Ext.refl w4).alloc _).drew).cell ia0_4, (((Ext.refl w4).alloc _).drew).cell ia1_4, (((Ext.refl w4).alloc _).drew).cell ia2_4⟩) | (with_reducible exact ⟨x_0, x_1, x_2, x_3, x_4, x_5⟩) | (with_reducible exact ⟨(Ea.alloc _).cell ir0_4, (Ea.alloc _).cell ir1_4, (Ea.alloc _).cell ir2_4, (Ea.alloc _).cell ia0_4, (Ea.alloc _).cell ia1_4, (Ea.alloc _).cell ia2_4⟩) | (with_reducible exact ⟨y_0, y_1, y_2, y_3, y_4, y_5⟩) | (with_reducible exact ⟨(Eb.alloc _).cell ir0_4, (Eb.alloc _).cell ir1_4, (Eb.alloc _).cell ir2_4, (Eb.alloc _).cell ia0_4, (Eb.alloc _).cell ia1_4, (Eb.alloc _).cell ia2_4⟩) | (with_reducible exact ⟨grown_cell (b := w4.heap.size) (grown_setCell (grown_setCell (grown_setCell (grown_refl _ _) _ _) _ _) _ _) hn0 y_0, grown_cell (b := w4.heap.size) (grown_setCell (grown_setCell (grown_setCell (grown_refl _ _) _ _) _ _) _ _) hn0 y_1, grown_cell (b := w4.heap.size) (grown_setCell (grown_setCell (grown_setCell (grown_refl _ _) _ _) _ _) _ _) hn0 y_2, grown_cell (b := w4.heap.size) (grown_setCell (grown_setCell (grown_setCell (grown_refl _ _) _ _) _ _) _ _) hn1 y_3, grown_cell (b := w4.heap.size) (grown_setCell (grown_setCell (grown_setCell (grown_refl _ _) _ _) _ _) _ _) hn1 y_4, grown_cell (b := w4.heap.size) (grown_setCell (grown_setCell (grown_setCell (grown_refl _ _) _ _) _ _) _ _) hn1 y_5⟩) | (with_reducible exact ⟨grown_cell (b := wa.heap.size) (grown_setCell (grown_setCell (grown_setCell (grown_refl _ _) _ _) _ _) _ _) hm0 y_0, grown_cell (b := wa.heap.size) (grown_setCell (grown_setCell (grown_setCell (grown_refl _ _) _ _) _ _) _ _) hm0 y_1, grown_cell (b := wa.heap.size) (grown_setCell (grown_setCell (grown_setCell (grown_refl _ _) _ _) _ _) _ _) hm0 y_2, grown_cell (b := wa.heap.size) (grown_setCell (grown_setCell (grown_setCell (grown_refl _ _) _ _) _ _) _ _) hm1 y_3, grown_cell (b := wa.heap.size) (grown_setCell (grown_setCell (grown_setCell (grown_refl _ _) _ _) _ _) _ _) hm1 y_4, grown_cell (b := wa.heap.size) (grown_setCell (grown_setCell (grown_setCell (grown_refl _ _) _ _) _ _) _ _) hm1 y_5⟩))
      refine wpAnyH_take (i := 7) (v := ?_) rfl (by kernel_rfl) (by kernel_rfl) (by kernel_rfl) (fun _ _ _ h => h) (Or.inl ⟨by rfl, ?_⟩) (by assumption) ?_
      rotate_left
      · intro w hSw; (try dsimp only at hSw); go_simp; (try with_reducible rfl)
      (try go_simp)
      refine wpAnyH_take (i := 8) (v := ?_) rfl (by kernel_rfl) (by kernel_rfl) (by kernel_rfl) (fun _ _ _ h => h) (Or.inl ⟨by rfl, ?_⟩) (by assumption) ?_
      rotate_left
      · intro w hSw; (try dsimp only at hSw); go_simp; (try with_reducible rfl)
      (try go_simp)
      refine wpAnyH_take (i := 9) (v := ?_) rfl (by kernel_rfl) (by kernel_rfl) (by kernel_rfl) (fun _ _ _ h => h) (Or.inl ⟨by rfl, ?_⟩) (by assumption) ?_
      rotate_left
      · intro w hSw; (try dsimp only at hSw); go_simp; (try with_reducible rfl)
      (try go_simp)
      refine wpAnyH_ready (rs := [11]) (by kernel_rfl) (by simp) ?_
      refine AllReadyH.cons rfl (fun Kc hKc => ?_) AllReadyH.nil
      go_simp
      refine hKc.out _ _ ?_ (fun hHeld => ?_) <;> clear hKc Kc
      · (first | (with_reducible exact ⟨D0.cell ir0_4, D0.cell ir1_4, D0.cell ir2_4, D0.cell ia0_4, D0.cell ia1_4, D0.cell ia2_4⟩) | (with_reducible exact ⟨(((Ext.refl w4).alloc _).drew).cell ir0_4, (((Ext.refl w4).alloc _).drew).cell ir1_4, (((Ext.refl w4).alloc _).drew).cell ir2_4, (((Ext.refl w4).alloc _).drew).cell ia0_4, (((Ext.refl w4).alloc _).drew).cell ia1_4, (((Ext.refl w4).alloc _).drew).cell ia2_4⟩) | (with_reducible exact ⟨x_0, x_1, x_2, x_3, x_4, x_5⟩) | (with_reducible exact ⟨(Ea.alloc _).cell ir0_4, (Ea.alloc _).cell ir1_4, (Ea.alloc _).cell ir2_4, (Ea.alloc _).cell ia0_4, (Ea.alloc _).cell ia1_4, (Ea.alloc _).cell ia2_4⟩) | (with_reducible exact ⟨y_0, y_1, y_2, y_3, y_4, y_5⟩) | (with_reducible exact ⟨(Eb.alloc _).cell ir0_4, (Eb.alloc _).cell ir1_4, (Eb.alloc _).cell ir2_4, (Eb.alloc _).cell ia0_4, (Eb.alloc _).cell ia1_4, (Eb.alloc _).cell ia2_4⟩) | (with_reducible exact ⟨grown_cell (b := w4.heap.size) (grown_setCell (grown_setCell (grown_setCell (grown_refl _ _) _ _) _ _) _ _) hn0 y_0, grown_cell (b := w4.heap.size) (grown_setCell (grown_setCell (grown_setCell (grown_refl _ _) _ _) _ _) _ _) hn0 y_1, grown_cell (b := w4.heap.size) (grown_setCell (grown_setCell (grown_setCell (grown_refl _ _) _ _) _ _) _ _) hn0 y_2, grown_cell (b := w4.heap.size) (grown_setCell (grown_setCell (grown_setCell (grown_refl _ _) _ _) _ _) _ _) hn1 y_3, grown_cell (b := w4.heap.size) (grown_setCell (grown_setCell (grown_setCell (grown_refl _ _) _ _) _ _) _ _) hn1 y_4, grown_cell (b := w4.heap.size) (grown_setCell (grown_setCell (grown_setCell (grown_refl _ _) _ _) _ _) _ _) hn1 y_5⟩) | (with_reducible exact ⟨grown_cell (b := wa.heap.size) (grown_setCell (grown_setCell (grown_setCell (grown_refl _ _) _ _) _ _) _ _) hm0 y_0, grown_cell (b := wa.heap.size) (grown_setCell (grown_setCell (grown_setCell (grown_refl _ _) _ _) _ _) _ _) hm0 y_1, grown_cell (b := wa.heap.size) (grown_setCell (grown_setCell (grown_setCell (grown_refl _ _) _ _) _ _) _ _) hm0 y_2, grown_cell (b := wa.heap.size) (grown_setCell (grown_setCell (grown_setCell (grown_refl _ _) _ _) _ _) _ _) hm1 y_3, grown_cell (b := wa.heap.size) (grown_setCell (grown_setCell (grown_setCell (grown_refl _ _) _ _) _ _) _ _) hm1 y_4, grown_cell (b := wa.heap.size) (grown_setCell (grown_setCell (grown_setCell (grown_refl _ _) _ _) _ _) _ _) hm1 y_5⟩))
      refine wpAnyH_ready (rs := [12]) (by kernel_rfl) (by simp) ?_
      refine AllReadyH.cons rfl (fun Kc hKc => ?_) AllReadyH.nil
      go_simp
      refine hKc.out _ _ ?_ (fun hHeld => ?_) <;> clear hKc Kc
      · (first | (with_reducible exact ⟨D0.cell ir0_4, D0.cell ir1_4, D0.cell ir2_4, D0.cell ia0_4, D0.cell ia1_4, D0.cell ia2_4⟩) | (with_reducible exact ⟨(((Ext.refl w4).alloc _).drew).cell ir0_4, (((Ext.refl w4).alloc _).drew).cell ir1_4, (((Ext.refl w4).alloc _).drew).cell ir2_4, (((Ext.refl w4).alloc _).drew).cell ia0_4, (((Ext.refl w4).alloc _).drew).cell ia1_4, (((Ext.refl w4).alloc _).drew).cell ia2_4⟩) | (with_reducible exact ⟨x_0, x_1, x_2, x_3, x_4, x_5⟩) | (with_reducible exact ⟨(Ea.alloc _).cell ir0_4, (Ea.alloc _).cell ir1_4, (Ea.alloc _).cell ir2_4, (Ea.alloc _).cell ia0_4, (Ea.alloc _).cell ia1_4, (Ea.alloc _).cell ia2_4⟩) | (with_reducible exact ⟨y_0, y_1, y_2, y_3, y_4, y_5⟩) | (with_reducible exact ⟨(Eb.alloc _).cell ir0_4, (Eb.alloc _).cell ir1_4, (Eb.alloc _).cell ir2_4, (Eb.alloc _).cell ia0_4, (Eb.alloc _).cell ia1_4, (Eb.alloc _).cell ia2_4⟩) | (with_reducible exact ⟨grown_cell (b := w4.heap.size) (grown_setCell (grown_setCell (grown_setCell (grown_refl _ _) _ _) _ _) _ _) hn0 y_0, grown_cell (b := w4.heap.size) (grown_setCell (grown_setCell (grown_setCell (grown_refl _ _) _ _) _ _) _ _) hn0 y_1, grown_cell (b := w4.heap.size) (grown_setCell (grown_setCell (grown_setCell (grown_refl _ _) _ _) _ _) _ _) hn0 y_2, grown_cell (b := w4.heap.size) (grown_setCell (grown_setCell (grown_setCell (grown_refl _ _) _ _) _ _) _ _) hn1 y_3, grown_cell (b := w4.heap.size) (grown_setCell (grown_setCell (grown_setCell (grown_refl _ _) _ _) _ _) _ _) hn1 y_4, grown_cell (b := w4.heap.size) (grown_setCell (grown_setCell (grown_setCell (grown_refl _ _) _ _) _ _) _ _) hn1 y_5⟩) | (with_reducible exact ⟨grown_cell (b := wa.heap.size) (grown_setCell (grown_setCell (grown_setCell (grown_refl _ _) _ _) _ _) _ _) hm0 y_0, grown_cell (b := wa.heap.size) (grown_setCell (grown_setCell (grown_setCell (grown_refl _ _) _ _) _ _) _ _) hm0 y_1, grown_cell (b := wa.heap.size) (grown_setCell (grown_setCell (grown_setCell (grown_refl _ _) _ _) _ _) _ _) hm0 y_2, grown_cell (b := wa.heap.size) (grown_setCell (grown_setCell (grown_setCell (grown_refl _ _) _ _) _ _) _ _) hm1 y_3, grown_cell (b := wa.heap.size) (grown_setCell (grown_setCell (grown_setCell (grown_refl _ _) _ _) _ _) _ _) hm1 y_4, grown_cell (b := wa.heap.size) (grown_setCell (grown_setCell (grown_setCell (grown_refl _ _) _ _) _ _) _ _) hm1 y_5⟩))
      refine wpAnyH_done (by kernel_rfl) ?_ _
      go_wp2_with fail
      go_meet
      exact ⟨wa.heap.size, up1, un1, uc1, up2, un2, uc2, up3, un3, uc3, M, rfl, rfl, ((Yb.set 0 (.slice up1 un1 uc1)).set 1 (.slice up2 un2 uc2)).set 2 (.slice up3 un3 uc3), ((Eb.setAt hEas _ _).setAt hEas _ _).setAt hEas _ _, (((ou.setBelow (p := ⟨wa.heap.size, 0, none⟩) (by simp) _).setBelow (p := ⟨wa.heap.size, 1, none⟩) (by simp) _).setBelow (p := ⟨wa.heap.size, 2, none⟩) (by simp) _).mono (by simp; omega), hp⟩
    refine AllReadyH.cons rfl (fun Kc hKc => ?_) AllReadyH.nil
    go_simp
    refine hKc.out _ _ ?_ (fun hHeld => ?_) <;> clear hKc Kc
    · (first | (with_reducible exact ⟨D0.cell ir0_4, D0.cell ir1_4, D0.cell ir2_4, D0.cell ia0_4, D0.cell ia1_4, D0.cell ia2_4⟩) | (with_reducible exact ⟨(((Ext.refl w4).alloc _).drew).cell ir0_4, (((Ext.refl w4).alloc _).drew).cell ir1_4, (((Ext.refl w4).alloc _).drew).cell ir2_4, (((Ext.refl w4).alloc _).drew).cell ia0_4, (((Ext.refl w4).alloc _).drew).cell ia1_4, (((Ext.refl w4).alloc _).drew).cell ia2_4⟩) | (with_reducible exact ⟨x_0, x_1, x_2, x_3, x_4, x_5⟩) | (with_reducible exact ⟨(Ea.alloc _).cell ir0_4, (Ea.alloc _).cell ir1_4, (Ea.alloc _).cell ir2_4, (Ea.alloc _).cell ia0_4, (Ea.alloc _).cell ia1_4, (Ea.alloc _).cell ia2_4⟩) | (with_reducible exact ⟨y_0, y_1, y_2, y_3, y_4, y_5⟩) | (with_reducible exact ⟨(Eb.alloc _).cell ir0_4, (Eb.alloc _).cell ir1_4, (Eb.alloc _).cell ir2_4, (Eb.alloc _).cell ia0_4, (Eb.alloc _).cell ia1_4, (Eb.alloc _).cell ia2_4⟩) | (with_reducible exact ⟨grown_cell (b := w4.heap.size) (grown_setCell (grown_setCell (grown_setCell (grown_refl _ _) _ _) _ _) _ _) hn0 y_0, grown_cell (b := w4.heap.size) (grown_setCell (grown_setCell (grown_setCell (grown_refl _ _) _ _) _ _) _ _) hn0 y_1, grown_cell (b := w4.heap.size) (grown_setCell (grown_setCell (grown_setCell (grown_refl _ _) _ _) _ _) _ _) hn0 y_2, grown_cell (b := w4.heap.size) (grown_setCell (grown_setCell (grown_setCell (grown_refl _ _) _ _) _ _) _ _) hn1 y_3, grown_cell (b := w4.heap.size) (grown_setCell (grown_setCell (grown_setCell (grown_refl _ _) _ _) _ _) _ _) hn1 y_4, grown_cell (b := w4.heap.size) (grown_setCell (grown_setCell (grown_setCell (grown_refl _ _) _ _) _ _) _ _) hn1 y_5⟩) | (with_reducible exact ⟨grown_cell (b := wa.heap.size) (grown_setCell (grown_setCell (grown_setCell (grown_refl _ _) _ _) _ _) _ _) hm0 y_0, grown_cell (b := wa.heap.size) (grown_setCell (grown_setCell (grown_setCell (grown_refl _ _) _ _) _ _) _ _) hm0 y_1, grown_cell (b := wa.heap.size) (grown_setCell (grown_setCell (grown_setCell (grown_refl _ _) _ _) _ _) _ _) hm0 y_2, grown_cell (b := wa.heap.size) (grown_setCell (grown_setCell (grown_setCell (grown_refl _ _) _ _) _ _) _ _) hm1 y_3, grown_cell (b := wa.heap.size) (grown_setCell (grown_setCell (grown_setCell (grown_refl _ _) _ _) _ _) _ _) hm1 y_4, grown_cell (b := wa.heap.size) (grown_setCell (grown_setCell (grown_setCell (grown_refl _ _) _ _) _ _) _ _) hm1 y_5⟩))
    refine wpAnyH_ready (rs := [5]) (by kernel_rfl) (by simp) ?_
    refine AllReadyH.cons rfl (fun Kc hKc => ?_) AllReadyH.nil
    go_simp; go_at_call 24
    (with_reducible refine (makeList_any _ _ l a 60 (w4.alloc (.cells #[.slice none 0 0, .slice none 0 0, .slice none 0 0] 31)).drew ((hC.ext (h1.trans (h2.trans (h3.trans h4)))).ext (((Ext.refl w4).alloc _).drew)) ((oa.tens.ext h4).labsP.ext (((Ext.refl w4).alloc _).drew)) (by omega) (by omega)).mono ?_); rintro e3 wa ⟨vm, M, rfl, om, hp, ha⟩; have Ea : Ext w4 wa := (((Ext.refl w4).alloc _).drew).trans ha; have x_0 := Ea.cell ir0_4; have x_1 := Ea.cell ir1_4; have x_2 := Ea.cell ir2_4; have x_3 := Ea.cell ia0_4; have x_4 := Ea.cell ia1_4; have x_5 := Ea.cell ia2_4; have hEas := Ea.size; obtain ⟨am, cm, rfl, _, _⟩ := om.ints.val; have hm0 : w1.heap.size ≠ wa.heap.size := (by omega); have hm1 : w3.heap.size ≠ wa.heap.size := (by omega); have Ya : Blk wa w4.heap.size 31 [.slice none 0 0, .slice none 0 0, .slice none 0 0] := ((Blk.new w4 #[.slice none 0 0, .slice none 0 0, .slice none 0 0] 31).ext ((Ext.refl _).drew)).ext ha; have hlt23 : w4.heap.size < wa.heap.size := Ya.lt
    (try go_simp)
    refine hKc.out _ _ ?_ (fun hHeld => ?_) <;> clear hKc Kc
    · (first | (with_reducible exact ⟨D0.cell ir0_4, D0.cell ir1_4, D0.cell ir2_4, D0.cell ia0_4, D0.cell ia1_4, D0.cell ia2_4⟩) | (with_reducible exact ⟨(((Ext.refl w4).alloc _).drew).cell ir0_4, (((Ext.refl w4).alloc _).drew).cell ir1_4, (((Ext.refl w4).alloc _).drew).cell ir2_4, (((Ext.refl w4).alloc _).drew).cell ia0_4, (((Ext.refl w4).alloc _).drew).cell ia1_4, (((Ext.refl w4).alloc _).drew).cell ia2_4⟩) | (with_reducible exact ⟨x_0, x_1, x_2, x_3, x_4, x_5⟩) | (with_reducible exact ⟨(Ea.alloc _).cell ir0_4, (Ea.alloc _).cell ir1_4, (Ea.alloc _).cell ir2_4, (Ea.alloc _).cell ia0_4, (Ea.alloc _).cell ia1_4, (Ea.alloc _).cell ia2_4⟩) | (with_reducible exact ⟨y_0, y_1, y_2, y_3, y_4, y_5⟩) | (with_reducible exact ⟨(Eb.alloc _).cell ir0_4, (Eb.alloc _).cell ir1_4, (Eb.alloc _).cell ir2_4, (Eb.alloc _).cell ia0_4, (Eb.alloc _).cell ia1_4, (Eb.alloc _).cell ia2_4⟩) | (with_reducible exact ⟨grown_cell (b := w4.heap.size) (grown_setCell (grown_setCell (grown_setCell (grown_refl _ _) _ _) _ _) _ _) hn0 y_0, grown_cell (b := w4.heap.size) (grown_setCell (grown_setCell (grown_setCell (grown_refl _ _) _ _) _ _) _ _) hn0 y_1, grown_cell (b := w4.heap.size) (grown_setCell (grown_setCell (grown_setCell (grown_refl _ _) _ _) _ _) _ _) hn0 y_2, grown_cell (b := w4.heap.size) (grown_setCell (grown_setCell (grown_setCell (grown_refl _ _) _ _) _ _) _ _) hn1 y_3, grown_cell (b := w4.heap.size) (grown_setCell (grown_setCell (grown_setCell (grown_refl _ _) _ _) _ _) _ _) hn1 y_4, grown_cell (b := w4.heap.size) (grown_setCell (grown_setCell (grown_setCell (grown_refl _ _) _ _) _ _) _ _) hn1 y_5⟩) | (with_reducible exact ⟨grown_cell (b := wa.heap.size) (grown_setCell (grown_setCell (grown_setCell (grown_refl _ _) _ _) _ _) _ _) hm0 y_0, grown_cell (b := wa.heap.size) (grown_setCell (grown_setCell (grown_setCell (grown_refl _ _) _ _) _ _) _ _) hm0 y_1, grown_cell (b := wa.heap.size) (grown_setCell (grown_setCell (grown_setCell (grown_refl _ _) _ _) _ _) _ _) hm0 y_2, grown_cell (b := wa.heap.size) (grown_setCell (grown_setCell (grown_setCell (grown_refl _ _) _ _) _ _) _ _) hm1 y_3, grown_cell (b := wa.heap.size) (grown_setCell (grown_setCell (grown_setCell (grown_refl _ _) _ _) _ _) _ _) hm1 y_4, grown_cell (b := wa.heap.size) (grown_setCell (grown_setCell (grown_setCell (grown_refl _ _) _ _) _ _) _ _) hm1 y_5⟩))
    refine wpAnyH_ready (rs := [6]) (by kernel_rfl) (by simp) ?_
    refine AllReadyH.cons rfl (fun Kc hKc => ?_) AllReadyH.nil
    go_simp; go_at_call 23
    (with_reducible refine (permuteTensor_any HR.out Ta.out hp.symm _ _ wa ((oa.tens.ext h4).ext Ea) (om.ints.ext (Ext.refl wa))).mono ?_); rintro e4 wb ⟨v4, rfl, ou, hb⟩; obtain ⟨up1, un1, uc1, up2, un2, uc2, up3, un3, uc3, rfl⟩ := ou.shape; have Eb : Ext w4 wb := Ea.trans hb; have y_0 := Eb.cell ir0_4; have y_1 := Eb.cell ir1_4; have y_2 := Eb.cell ir2_4; have y_3 := Eb.cell ia0_4; have y_4 := Eb.cell ia1_4; have y_5 := Eb.cell ia2_4; have hEbs := Eb.size; have o4m := ou.mono (B' := w4.heap.size) (by omega); have Yb := Ya.ext hb; have fb_0 := Yb.free 0; have yb_0 := Yb.cell (j := 0) rfl; have fb_1 := Yb.free 1; have yb_1 := Yb.cell (j := 1) rfl; have fb_2 := Yb.free 2; have yb_2 := Yb.cell (j := 2) rfl; have ylb := Yb.lt
    (try go_simp)
    refine hKc.out _ _ ?_ (fun hHeld => ?_) <;> clear hKc Kc
    · (first | (with_reducible exact ⟨D0.cell ir0_4, D0.cell ir1_4, D0.cell ir2_4, D0.cell ia0_4, D0.cell ia1_4, D0.cell ia2_4⟩) | (with_reducible exact ⟨(((Ext.refl w4).alloc _).drew).cell ir0_4, (((Ext.refl w4).alloc _).drew).cell ir1_4, (((Ext.refl w4).alloc _).drew).cell ir2_4, (((Ext.refl w4).alloc _).drew).cell ia0_4, (((Ext.refl w4).alloc _).drew).cell ia1_4, (((Ext.refl w4).alloc _).drew).cell ia2_4⟩) | (with_reducible exact ⟨x_0, x_1, x_2, x_3, x_4, x_5⟩) | (with_reducible exact ⟨(Ea.alloc _).cell ir0_4, (Ea.alloc _).cell ir1_4, (Ea.alloc _).cell ir2_4, (Ea.alloc _).cell ia0_4, (Ea.alloc _).cell ia1_4, (Ea.alloc _).cell ia2_4⟩) | (with_reducible exact ⟨y_0, y_1, y_2, y_3, y_4, y_5⟩) | (with_reducible exact ⟨(Eb.alloc _).cell ir0_4, (Eb.alloc _).cell ir1_4, (Eb.alloc _).cell ir2_4, (Eb.alloc _).cell ia0_4, (Eb.alloc _).cell ia1_4, (Eb.alloc _).cell ia2_4⟩) | (with_reducible exact ⟨grown_cell (b := w4.heap.size) (grown_setCell (grown_setCell (grown_setCell (grown_refl _ _) _ _) _ _) _ _) hn0 y_0, grown_cell (b := w4.heap.size) (grown_setCell (grown_setCell (grown_setCell (grown_refl _ _) _ _) _ _) _ _) hn0 y_1, grown_cell (b := w4.heap.size) (grown_setCell (grown_setCell (grown_setCell (grown_refl _ _) _ _) _ _) _ _) hn0 y_2, grown_cell (b := w4.heap.size) (grown_setCell (grown_setCell (grown_setCell (grown_refl _ _) _ _) _ _) _ _) hn1 y_3, grown_cell (b := w4.heap.size) (grown_setCell (grown_setCell (grown_setCell (grown_refl _ _) _ _) _ _) _ _) hn1 y_4, grown_cell (b := w4.heap.size) (grown_setCell (grown_setCell (grown_setCell (grown_refl _ _) _ _) _ _) _ _) hn1 y_5⟩) | (with_reducible exact ⟨grown_cell (b := wa.heap.size) (grown_setCell (grown_setCell (grown_setCell (grown_refl _ _) _ _) _ _) _ _) hm0 y_0, grown_cell (b := wa.heap.size) (grown_setCell (grown_setCell (grown_setCell (grown_refl _ _) _ _) _ _) _ _) hm0 y_1, grown_cell (b := wa.heap.size) (grown_setCell (grown_setCell (grown_setCell (grown_refl _ _) _ _) _ _) _ _) hm0 y_2, grown_cell (b := wa.heap.size) (grown_setCell (grown_setCell (grown_setCell (grown_refl _ _) _ _) _ _) _ _) hm1 y_3, grown_cell (b := wa.heap.size) (grown_setCell (grown_setCell (grown_setCell (grown_refl _ _) _ _) _ _) _ _) hm1 y_4, grown_cell (b := wa.heap.size) (grown_setCell (grown_setCell (grown_setCell (grown_refl _ _) _ _) _ _) _ _) hm1 y_5⟩))
    refine wpAnyH_take (i := 7) (v := ?_) rfl (by kernel_rfl) (by kernel_rfl) (by kernel_rfl) (fun _ _ _ h => h) (Or.inl ⟨by rfl, ?_⟩) (by assumption) ?_
    rotate_left
    · intro w hSw; (try dsimp only at hSw); go_simp; (try with_reducible rfl)
    (try go_simp)
    refine wpAnyH_take (i := 8) (v := ?_) rfl (by kernel_rfl) (by kernel_rfl) (by kernel_rfl) (fun _ _ _ h => h) (Or.inl ⟨by rfl, ?_⟩) (by assumption) ?_
    rotate_left
    · intro w hSw; (try dsimp only at hSw); go_simp; (try with_reducible rfl)
    (try go_simp)
    refine wpAnyH_take (i := 9) (v := ?_) rfl (by kernel_rfl) (by kernel_rfl) (by kernel_rfl) (fun _ _ _ h => h) (Or.inl ⟨by rfl, ?_⟩) (by assumption) ?_
    rotate_left
    · intro w hSw; (try dsimp only at hSw); go_simp; (try with_reducible rfl)
    (try go_simp)
    refine wpAnyH_ready (rs := [11]) (by kernel_rfl) (by simp) ?_
    refine AllReadyH.cons rfl (fun Kc hKc => ?_) AllReadyH.nil
    go_simp
    refine hKc.out _ _ ?_ (fun hHeld => ?_) <;> clear hKc Kc
    · (first | (with_reducible exact ⟨D0.cell ir0_4, D0.cell ir1_4, D0.cell ir2_4, D0.cell ia0_4, D0.cell ia1_4, D0.cell ia2_4⟩) | (with_reducible exact ⟨(((Ext.refl w4).alloc _).drew).cell ir0_4, (((Ext.refl w4).alloc _).drew).cell ir1_4, (((Ext.refl w4).alloc _).drew).cell ir2_4, (((Ext.refl w4).alloc _).drew).cell ia0_4, (((Ext.refl w4).alloc _).drew).cell ia1_4, (((Ext.refl w4).alloc _).drew).cell ia2_4⟩) | (with_reducible exact ⟨x_0, x_1, x_2, x_3, x_4, x_5⟩) | (with_reducible exact ⟨(Ea.alloc _).cell ir0_4, (Ea.alloc _).cell ir1_4, (Ea.alloc _).cell ir2_4, (Ea.alloc _).cell ia0_4, (Ea.alloc _).cell ia1_4, (Ea.alloc _).cell ia2_4⟩) | (with_reducible exact ⟨y_0, y_1, y_2, y_3, y_4, y_5⟩) | (with_reducible exact ⟨(Eb.alloc _).cell ir0_4, (Eb.alloc _).cell ir1_4, (Eb.alloc _).cell ir2_4, (Eb.alloc _).cell ia0_4, (Eb.alloc _).cell ia1_4, (Eb.alloc _).cell ia2_4⟩) | (with_reducible exact ⟨grown_cell (b := w4.heap.size) (grown_setCell (grown_setCell (grown_setCell (grown_refl _ _) _ _) _ _) _ _) hn0 y_0, grown_cell (b := w4.heap.size) (grown_setCell (grown_setCell (grown_setCell (grown_refl _ _) _ _) _ _) _ _) hn0 y_1, grown_cell (b := w4.heap.size) (grown_setCell (grown_setCell (grown_setCell (grown_refl _ _) _ _) _ _) _ _) hn0 y_2, grown_cell (b := w4.heap.size) (grown_setCell (grown_setCell (grown_setCell (grown_refl _ _) _ _) _ _) _ _) hn1 y_3, grown_cell (b := w4.heap.size) (grown_setCell (grown_setCell (grown_setCell (grown_refl _ _) _ _) _ _) _ _) hn1 y_4, grown_cell (b := w4.heap.size) (grown_setCell (grown_setCell (grown_setCell (grown_refl _ _) _ _) _ _) _ _) hn1 y_5⟩) | (with_reducible exact ⟨grown_cell (b := wa.heap.size) (grown_setCell (grown_setCell (grown_setCell (grown_refl _ _) _ _) _ _) _ _) hm0 y_0, grown_cell (b := wa.heap.size) (grown_setCell (grown_setCell (grown_setCell (grown_refl _ _) _ _) _ _) _ _) hm0 y_1, grown_cell (b := wa.heap.size) (grown_setCell (grown_setCell (grown_setCell (grown_refl _ _) _ _) _ _) _ _) hm0 y_2, grown_cell (b := wa.heap.size) (grown_setCell (grown_setCell (grown_setCell (grown_refl _ _) _ _) _ _) _ _) hm1 y_3, grown_cell (b := wa.heap.size) (grown_setCell (grown_setCell (grown_setCell (grown_refl _ _) _ _) _ _) _ _) hm1 y_4, grown_cell (b := wa.heap.size) (grown_setCell (grown_setCell (grown_setCell (grown_refl _ _) _ _) _ _) _ _) hm1 y_5⟩))
    refine wpAnyH_ready (rs := [12]) (by kernel_rfl) (by simp) ?_
    refine AllReadyH.cons rfl (fun Kc hKc => ?_) AllReadyH.nil
    go_simp
    refine hKc.out _ _ ?_ (fun hHeld => ?_) <;> clear hKc Kc
    · (first | (with_reducible exact ⟨D0.cell ir0_4, D0.cell ir1_4, D0.cell ir2_4, D0.cell ia0_4, D0.cell ia1_4, D0.cell ia2_4⟩) | (with_reducible exact ⟨(((Ext.refl w4).alloc _).drew).cell ir0_4, (((Ext.refl w4).alloc _).drew).cell ir1_4, (((Ext.refl w4).alloc _).drew).cell ir2_4, (((Ext.refl w4).alloc _).drew).cell ia0_4, (((Ext.refl w4).alloc _).drew).cell ia1_4, (((Ext.refl w4).alloc _).drew).cell ia2_4⟩) | (with_reducible exact ⟨x_0, x_1, x_2, x_3, x_4, x_5⟩) | (with_reducible exact ⟨(Ea.alloc _).cell ir0_4, (Ea.alloc _).cell ir1_4, (Ea.alloc _).cell ir2_4, (Ea.alloc _).cell ia0_4, (Ea.alloc _).cell ia1_4, (Ea.alloc _).cell ia2_4⟩) | (with_reducible exact ⟨y_0, y_1, y_2, y_3, y_4, y_5⟩) | (with_reducible exact ⟨(Eb.alloc _).cell ir0_4, (Eb.alloc _).cell ir1_4, (Eb.alloc _).cell ir2_4, (Eb.alloc _).cell ia0_4, (Eb.alloc _).cell ia1_4, (Eb.alloc _).cell ia2_4⟩) | (with_reducible exact ⟨grown_cell (b := w4.heap.size) (grown_setCell (grown_setCell (grown_setCell (grown_refl _ _) _ _) _ _) _ _) hn0 y_0, grown_cell (b := w4.heap.size) (grown_setCell (grown_setCell (grown_setCell (grown_refl _ _) _ _) _ _) _ _) hn0 y_1, grown_cell (b := w4.heap.size) (grown_setCell (grown_setCell (grown_setCell (grown_refl _ _) _ _) _ _) _ _) hn0 y_2, grown_cell (b := w4.heap.size) (grown_setCell (grown_setCell (grown_setCell (grown_refl _ _) _ _) _ _) _ _) hn1 y_3, grown_cell (b := w4.heap.size) (grown_setCell (grown_setCell (grown_setCell (grown_refl _ _) _ _) _ _) _ _) hn1 y_4, grown_cell (b := w4.heap.size) (grown_setCell (grown_setCell (grown_setCell (grown_refl _ _) _ _) _ _) _ _) hn1 y_5⟩) | (with_reducible exact ⟨grown_cell (b := wa.heap.size) (grown_setCell (grown_setCell (grown_setCell (grown_refl _ _) _ _) _ _) _ _) hm0 y_0, grown_cell (b := wa.heap.size) (grown_setCell (grown_setCell (grown_setCell (grown_refl _ _) _ _) _ _) _ _) hm0 y_1, grown_cell (b := wa.heap.size) (grown_setCell (grown_setCell (grown_setCell (grown_refl _ _) _ _) _ _) _ _) hm0 y_2, grown_cell (b := wa.heap.size) (grown_setCell (grown_setCell (grown_setCell (grown_refl _ _) _ _) _ _) _ _) hm1 y_3, grown_cell (b := wa.heap.size) (grown_setCell (grown_setCell (grown_setCell (grown_refl _ _) _ _) _ _) _ _) hm1 y_4, grown_cell (b := wa.heap.size) (grown_setCell (grown_setCell (grown_setCell (grown_refl _ _) _ _) _ _) _ _) hm1 y_5⟩))
    refine wpAnyH_done (by kernel_rfl) ?_ _
    go_wp2_with fail
    go_meet
    exact ⟨w4.heap.size, up1, un1, uc1, up2, un2, uc2, up3, un3, uc3, M, rfl, rfl, ((Yb.set 0 (.slice up1 un1 uc1)).set 1 (.slice up2 un2 uc2)).set 2 (.slice up3 un3 uc3), ((Eb.setAt (Nat.le_refl _) _ _).setAt (Nat.le_refl _) _ _).setAt (Nat.le_refl _) _ _, (((ou.setBelow (p := ⟨w4.heap.size, 0, none⟩) hlt23 _).setBelow (p := ⟨w4.heap.size, 1, none⟩) hlt23 _).setBelow (p := ⟨w4.heap.size, 2, none⟩) hlt23 _).mono (by omega), hp⟩
  obtain ⟨w5, rfl⟩ : ∃ x, x = wc := ⟨wc, rfl⟩
  obtain ⟨bu5, up1, un1, uc1, up2, un2, uc2, up3, un3, uc3, M, rfl, rfl, Bu5, h5, ou, hex⟩ := hcut
  clear ir0_4 ir1_4 ir2_4 lr_4 ia0_4 ia1_4 ia2_4 la_4
  have Br5 := (Br4.ext h5)
  clear Br4
  have ir0_5 := Br5.cell (j := 0) rfl
  have ir1_5 := Br5.cell (j := 1) rfl
  have ir2_5 := Br5.cell (j := 2) rfl
  have lr_5 := Br5.lt
  have Ba5 := (Ba4.ext h5)
  clear Ba4
  have ia0_5 := Ba5.cell (j := 0) rfl
  have ia1_5 := Ba5.cell (j := 1) rfl
  have ia2_5 := Ba5.cell (j := 2) rfl
  have la_5 := Ba5.lt
  have Bu5 := Bu5
  have iu0_5 := Bu5.cell (j := 0) rfl
  have iu1_5 := Bu5.cell (j := 1) rfl
  have iu2_5 := Bu5.cell (j := 2) rfl
  have lu_5 := Bu5.lt
  go_wp2_with fail
  have HP := Lib.hid hex.symm; clear hex
  have Tu := Lib.hid (perm_isT HR.out Ta.out HP.out)
  refine (permuteTensor_any HR.out Tu.out HP.out.symm _ _ _ ou.tens (oa.tens.ext (h4.trans h5)).labsP).mono ?_; rintro e6 w6 ⟨vv, rfl, ov, h6⟩
  obtain ⟨vp1, vn1, vc1, vp2, vn2, vc2, vp3, vn3, vc3, rfl⟩ := ov.shape
  rw [permXs_back HR.out Ta.out.uni Ta.out.sub HP.out Ta.out.len] at ov
  clear ir0_5 ir1_5 ir2_5 lr_5 ia0_5 ia1_5 ia2_5 la_5 iu0_5 iu1_5 iu2_5 lu_5
  have Br6 := (Br5.ext h6)
  clear Br5
  have ir0_6 := Br6.cell (j := 0) rfl
  have ir1_6 := Br6.cell (j := 1) rfl
  have ir2_6 := Br6.cell (j := 2) rfl
  have lr_6 := Br6.lt
  have Ba6 := (Ba5.ext h6)
  clear Ba5
  have ia0_6 := Ba6.cell (j := 0) rfl
  have ia1_6 := Ba6.cell (j := 1) rfl
  have ia2_6 := Ba6.cell (j := 2) rfl
  have la_6 := Ba6.lt
  have Bu6 := (Bu5.ext h6)
  clear Bu5
  have iu0_6 := Bu6.cell (j := 0) rfl
  have iu1_6 := Bu6.cell (j := 1) rfl
  have iu2_6 := Bu6.cell (j := 2) rfl
  have lu_6 := Bu6.lt
  go_wp2_with fail
  generalize hG7 : w6.alloc (.cells #[.slice vp1 vn1 vc1, .slice vp2 vn2 vc2, .slice vp3 vn3 vc3] 31) = w7
  have h7 : Ext w6 w7 := by rw [← hG7]; exact (Ext.refl _).alloc _
  have Bv7 : Blk w7 w6.heap.size 31 [.slice vp1 vn1 vc1, .slice vp2 vn2 vc2, .slice vp3 vn3 vc3] := by rw [← hG7]; exact Blk.new w6 #[.slice vp1 vn1 vc1, .slice vp2 vn2 vc2, .slice vp3 vn3 vc3] 31
  have hsz7 : w7.heap.size = w6.heap.size + 1 := by rw [← hG7]; simp
  have HSZ7 := Lib.hid hsz7; clear hsz7
  clear hG7
  clear ir0_6 ir1_6 ir2_6 lr_6 ia0_6 ia1_6 ia2_6 la_6 iu0_6 iu1_6 iu2_6 lu_6
  have Br7 := (Br6.ext h7)
  clear Br6
  have ir0_7 := Br7.cell (j := 0) rfl
  have ir1_7 := Br7.cell (j := 1) rfl
  have ir2_7 := Br7.cell (j := 2) rfl
  have lr_7 := Br7.lt
  have Ba7 := (Ba6.ext h7)
  clear Ba6
  have ia0_7 := Ba7.cell (j := 0) rfl
  have ia1_7 := Ba7.cell (j := 1) rfl
  have ia2_7 := Ba7.cell (j := 2) rfl
  have la_7 := Ba7.lt
  have Bu7 := (Bu6.ext h7)
  clear Bu6
  have iu0_7 := Bu7.cell (j := 0) rfl
  have iu1_7 := Bu7.cell (j := 1) rfl
  have iu2_7 := Bu7.cell (j := 2) rfl
  have lu_7 := Bu7.lt
  have Bv7 := Bv7
  have iv0_7 := Bv7.cell (j := 0) rfl
  have iv1_7 := Bv7.cell (j := 1) rfl
  have iv2_7 := Bv7.cell (j := 2) rfl
  have lv_7 := Bv7.lt
  obtain ⟨f, hf⟩ : ∃ f : Int → Int, f = fun x => 90 - x := ⟨_, rfl⟩
  have hfx : ∀ x, f x = 90 - x := fun x => by rw [hf]
  have hinj : ∀ x y, f x = f y → x = y := fun x y h => by rw [hfx, hfx] at h; omega
  have HF := Lib.hid hfx; have HIN := Lib.hid hinj; clear hfx hf hinj
  have HAX : Hid (AxOk (a.map f) (a.map dimOf)) := Lib.hid (axOk_map HIN.out Ta.out.ax fun l hl => by rw [HF.out]; have := Ta.out.sub.sub l hl; simp [U6] at this; omega)
  have HTO : Hid (TOk k p n (a.map f) (a.map dimOf) (flat xsa)) := Lib.hid ⟨HAX.out, (Ta.out.ok HR.out).len, (Ta.out.ok HR.out).top⟩
  have HPS := Lib.hid (perm_sort HR.out Ta.out HP.out)
  have hx9 : ∀ x ∈ a, 0 ≤ x ∧ x ≤ 90 := fun x hx => by have := Ta.out.sub.sub x hx; simp [U6] at this; omega
  have HX9 := Lib.hid hx9; clear hx9
  go_loopw [9, 46] (fun q i wr => ∃ j : Nat, j ≤ a.length ∧ i = .int .i64 j ∧ OwnI wr w7.heap.size q ((a.take j).map f) ∧ Ext w7 wr) (fun q i wr => a.length - (RowKit.intOf i).toNat)
  case atStart => exact ⟨0, Nat.zero_le _, rfl, by rw [List.take_zero]; exact OwnI.empty (by have := HSZ7.out; omega) HSZ7.out.symm, (Ext.refl _).alloc _⟩
  case round =>
    obtain ⟨w8, rfl⟩ : ∃ x, x = wr := ⟨wr, rfl⟩
    obtain ⟨j, hj, rfl, hO, h8⟩ := hrel
    have hs8 := h8.size
    obtain ⟨Q, hQ⟩ : ∃ Q, (a.take j).map f = Q := ⟨_, rfl⟩
    rw [hQ] at hO
    have hQl : Q.length ≤ 12 := by rw [← hQ, List.length_map, List.length_take]; omega
    have HQ := Lib.hid hQ; clear hQ
    obtain ⟨aq, cq, rfl, hq1, hq2⟩ := hO.ints.val
    by_cases hlt : j < a.length
    · obtain ⟨b2, off2, x, hxx, hcx, hx, _⟩ := ((oa.tens.ext (h4.trans (h5.trans (h6.trans (h7.trans h8))))).labsP).get hlt
      cases hxx
      have hx0 := HX9.out x (List.mem_of_getElem? hx)
      have HX := Lib.hid hx; clear hx
      go_wp2_with (at_builtin; refine wpList_app _ rfl _ _ 29 rfl _ _ rfl rfl _ (run_push _ w8 w7.heap.size _ _ (90 - x) hO (by omega) hs8) ?_; rintro v3 w3 ⟨o3, g3, _⟩)
      go_roundw
      case rel => exact ⟨j + 1, by omega, by go_num, by rw [take_snoc' HX.out, List.map_append, List.map_cons, List.map_nil, HF.out, HQ.out]; exact o3, h8.mark hO g3⟩
      case measure => simp [RowKit.intOf]; omega
    · have hje : j = a.length := by omega
      subst hje
      have hQ := HQ.out; rw [List.take_length] at hQ; subst hQ
      have ot := hO.ints; clear hO
      rw [List.length_map] at ot
      clear ir0_7 ir1_7 ir2_7 lr_7 ia0_7 ia1_7 ia2_7 la_7 iu0_7 iu1_7 iu2_7 lu_7 iv0_7 iv1_7 iv2_7 lv_7
      have Br8 := (Br7.ext h8)
      clear Br7
      have ir0_8 := Br8.cell (j := 0) rfl
      have ir1_8 := Br8.cell (j := 1) rfl
      have ir2_8 := Br8.cell (j := 2) rfl
      have lr_8 := Br8.lt
      have Ba8 := (Ba7.ext h8)
      clear Ba7
      have ia0_8 := Ba8.cell (j := 0) rfl
      have ia1_8 := Ba8.cell (j := 1) rfl
      have ia2_8 := Ba8.cell (j := 2) rfl
      have la_8 := Ba8.lt
      have Bu8 := (Bu7.ext h8)
      clear Bu7
      have iu0_8 := Bu8.cell (j := 0) rfl
      have iu1_8 := Bu8.cell (j := 1) rfl
      have iu2_8 := Bu8.cell (j := 2) rfl
      have lu_8 := Bu8.lt
      have Bv8 := (Bv7.ext h8)
      clear Bv7
      have iv0_8 := Bv8.cell (j := 0) rfl
      have iv1_8 := Bv8.cell (j := 1) rfl
      have iv2_8 := Bv8.cell (j := 2) rfl
      have lv_8 := Bv8.lt
      go_wp2_with fail
      refine (relabelTensor_any k p n HR.out (Ta.out.ok HR.out) (by rw [renL_there]; exact HAX.out) (by rw [List.length_map]) _ _ _ _ (oa.tens.ext (h4.trans (h5.trans (h6.trans (h7.trans h8))))) (oa.tens.ext (h4.trans (h5.trans (h6.trans (h7.trans h8))))).labsP ot).mono ?_; rintro e9 w9 ⟨vw, rfl, oww, h9⟩
      rw [renL_there] at oww
      obtain ⟨wwp1, wwn1, wwc1, wwp2, wwn2, wwc2, wwp3, wwn3, wwc3, rfl⟩ := oww.shape
      clear ir0_8 ir1_8 ir2_8 lr_8 ia0_8 ia1_8 ia2_8 la_8 iu0_8 iu1_8 iu2_8 lu_8 iv0_8 iv1_8 iv2_8 lv_8
      have Br9 := (Br8.ext h9)
      clear Br8
      have ir0_9 := Br9.cell (j := 0) rfl
      have ir1_9 := Br9.cell (j := 1) rfl
      have ir2_9 := Br9.cell (j := 2) rfl
      have lr_9 := Br9.lt
      have Ba9 := (Ba8.ext h9)
      clear Ba8
      have ia0_9 := Ba9.cell (j := 0) rfl
      have ia1_9 := Ba9.cell (j := 1) rfl
      have ia2_9 := Ba9.cell (j := 2) rfl
      have la_9 := Ba9.lt
      have Bu9 := (Bu8.ext h9)
      clear Bu8
      have iu0_9 := Bu9.cell (j := 0) rfl
      have iu1_9 := Bu9.cell (j := 1) rfl
      have iu2_9 := Bu9.cell (j := 2) rfl
      have lu_9 := Bu9.lt
      have Bv9 := (Bv8.ext h9)
      clear Bv8
      have iv0_9 := Bv9.cell (j := 0) rfl
      have iv1_9 := Bv9.cell (j := 1) rfl
      have iv2_9 := Bv9.cell (j := 2) rfl
      have lv_9 := Bv9.lt
      go_wp2_with fail
      generalize hG10 : w9.alloc (.cells #[.slice wwp1 wwn1 wwc1, .slice wwp2 wwn2 wwc2, .slice wwp3 wwn3 wwc3] 31) = w10
      have h10 : Ext w9 w10 := by rw [← hG10]; exact (Ext.refl _).alloc _
      have Bww10 : Blk w10 w9.heap.size 31 [.slice wwp1 wwn1 wwc1, .slice wwp2 wwn2 wwc2, .slice wwp3 wwn3 wwc3] := by rw [← hG10]; exact Blk.new w9 #[.slice wwp1 wwn1 wwc1, .slice wwp2 wwn2 wwc2, .slice wwp3 wwn3 wwc3] 31
      clear hG10
      clear ir0_9 ir1_9 ir2_9 lr_9 ia0_9 ia1_9 ia2_9 la_9 iu0_9 iu1_9 iu2_9 lu_9 iv0_9 iv1_9 iv2_9 lv_9
      have Br10 := (Br9.ext h10)
      clear Br9
      have ir0_10 := Br10.cell (j := 0) rfl
      have ir1_10 := Br10.cell (j := 1) rfl
      have ir2_10 := Br10.cell (j := 2) rfl
      have lr_10 := Br10.lt
      have Ba10 := (Ba9.ext h10)
      clear Ba9
      have ia0_10 := Ba10.cell (j := 0) rfl
      have ia1_10 := Ba10.cell (j := 1) rfl
      have ia2_10 := Ba10.cell (j := 2) rfl
      have la_10 := Ba10.lt
      have Bu10 := (Bu9.ext h10)
      clear Bu9
      have iu0_10 := Bu10.cell (j := 0) rfl
      have iu1_10 := Bu10.cell (j := 1) rfl
      have iu2_10 := Bu10.cell (j := 2) rfl
      have lu_10 := Bu10.lt
      have Bv10 := (Bv9.ext h10)
      clear Bv9
      have iv0_10 := Bv10.cell (j := 0) rfl
      have iv1_10 := Bv10.cell (j := 1) rfl
      have iv2_10 := Bv10.cell (j := 2) rfl
      have lv_10 := Bv10.lt
      have Bww10 := Bww10
      have iww0_10 := Bww10.cell (j := 0) rfl
      have iww1_10 := Bww10.cell (j := 1) rfl
      have iww2_10 := Bww10.cell (j := 2) rfl
      have lww_10 := Bww10.lt
      refine (relabelTensor_any k p n HR.out HTO.out (by rw [renL_back HIN.out]; exact Ta.out.ax) (by rw [List.length_map]) _ _ _ _ (oww.tens.ext h10) (ot.ext (h9.trans h10)) (oa.tens.ext (h4.trans (h5.trans (h6.trans (h7.trans (h8.trans (h9.trans h10))))))).labsP).mono ?_; rintro e11 w11 ⟨vz, rfl, oz, h11⟩
      rw [renL_back HIN.out] at oz
      obtain ⟨zp1, zn1, zc1, zp2, zn2, zc2, zp3, zn3, zc3, rfl⟩ := oz.shape
      clear ir0_10 ir1_10 ir2_10 lr_10 ia0_10 ia1_10 ia2_10 la_10 iu0_10 iu1_10 iu2_10 lu_10 iv0_10 iv1_10 iv2_10 lv_10 iww0_10 iww1_10 iww2_10 lww_10
      have Br11 := (Br10.ext h11)
      clear Br10
      have ir0_11 := Br11.cell (j := 0) rfl
      have ir1_11 := Br11.cell (j := 1) rfl
      have ir2_11 := Br11.cell (j := 2) rfl
      have lr_11 := Br11.lt
      have Ba11 := (Ba10.ext h11)
      clear Ba10
      have ia0_11 := Ba11.cell (j := 0) rfl
      have ia1_11 := Ba11.cell (j := 1) rfl
      have ia2_11 := Ba11.cell (j := 2) rfl
      have la_11 := Ba11.lt
      have Bu11 := (Bu10.ext h11)
      clear Bu10
      have iu0_11 := Bu11.cell (j := 0) rfl
      have iu1_11 := Bu11.cell (j := 1) rfl
      have iu2_11 := Bu11.cell (j := 2) rfl
      have lu_11 := Bu11.lt
      have Bv11 := (Bv10.ext h11)
      clear Bv10
      have iv0_11 := Bv11.cell (j := 0) rfl
      have iv1_11 := Bv11.cell (j := 1) rfl
      have iv2_11 := Bv11.cell (j := 2) rfl
      have lv_11 := Bv11.lt
      have Bww11 := (Bww10.ext h11)
      clear Bww10
      have iww0_11 := Bww11.cell (j := 0) rfl
      have iww1_11 := Bww11.cell (j := 1) rfl
      have iww2_11 := Bww11.cell (j := 2) rfl
      have lww_11 := Bww11.lt
      go_wp2_with fail
      generalize hG12 : w11.alloc (.cells #[.slice zp1 zn1 zc1, .slice zp2 zn2 zc2, .slice zp3 zn3 zc3] 31) = w12
      have h12 : Ext w11 w12 := by rw [← hG12]; exact (Ext.refl _).alloc _
      have Bz12 : Blk w12 w11.heap.size 31 [.slice zp1 zn1 zc1, .slice zp2 zn2 zc2, .slice zp3 zn3 zc3] := by rw [← hG12]; exact Blk.new w11 #[.slice zp1 zn1 zc1, .slice zp2 zn2 zc2, .slice zp3 zn3 zc3] 31
      clear hG12
      clear ir0_11 ir1_11 ir2_11 lr_11 ia0_11 ia1_11 ia2_11 la_11 iu0_11 iu1_11 iu2_11 lu_11 iv0_11 iv1_11 iv2_11 lv_11 iww0_11 iww1_11 iww2_11 lww_11
      have Br12 := (Br11.ext h12)
      clear Br11
      have ir0_12 := Br12.cell (j := 0) rfl
      have ir1_12 := Br12.cell (j := 1) rfl
      have ir2_12 := Br12.cell (j := 2) rfl
      have lr_12 := Br12.lt
      have Ba12 := (Ba11.ext h12)
      clear Ba11
      have ia0_12 := Ba12.cell (j := 0) rfl
      have ia1_12 := Ba12.cell (j := 1) rfl
      have ia2_12 := Ba12.cell (j := 2) rfl
      have la_12 := Ba12.lt
      have Bu12 := (Bu11.ext h12)
      clear Bu11
      have iu0_12 := Bu12.cell (j := 0) rfl
      have iu1_12 := Bu12.cell (j := 1) rfl
      have iu2_12 := Bu12.cell (j := 2) rfl
      have lu_12 := Bu12.lt
      have Bv12 := (Bv11.ext h12)
      clear Bv11
      have iv0_12 := Bv12.cell (j := 0) rfl
      have iv1_12 := Bv12.cell (j := 1) rfl
      have iv2_12 := Bv12.cell (j := 2) rfl
      have lv_12 := Bv12.lt
      have Bww12 := (Bww11.ext h12)
      clear Bww11
      have iww0_12 := Bww12.cell (j := 0) rfl
      have iww1_12 := Bww12.cell (j := 1) rfl
      have iww2_12 := Bww12.cell (j := 2) rfl
      have lww_12 := Bww12.lt
      have Bz12 := Bz12
      have iz0_12 := Bz12.cell (j := 0) rfl
      have iz1_12 := Bz12.cell (j := 1) rfl
      have iz2_12 := Bz12.cell (j := 2) rfl
      have lz_12 := Bz12.lt
      go_upto_region 22 with fail
      try simp only [List.append]
      have h13 : Ext w12 w12.drew := (Ext.refl _).drew
      go_region_held3 (fun w' => w'.cell? ⟨w1.heap.size, 0, none⟩ = some (.int .i64 k) ∧ w'.cell? ⟨w1.heap.size, 1, none⟩ = some (.int .i64 p) ∧ w'.cell? ⟨w1.heap.size, 2, none⟩ = some (.int .i64 n) ∧ w'.cell? ⟨w3.heap.size, 0, none⟩ = some (.slice ap1 a.length ac1) ∧ w'.cell? ⟨w3.heap.size, 1, none⟩ = some (.slice ap2 an2 ac2) ∧ w'.cell? ⟨w3.heap.size, 2, none⟩ = some (.slice ap3 an3 ac3) ∧ w'.cell? ⟨bu5, 0, none⟩ = some (.slice up1 un1 uc1) ∧ w'.cell? ⟨bu5, 1, none⟩ = some (.slice up2 un2 uc2) ∧ w'.cell? ⟨bu5, 2, none⟩ = some (.slice up3 un3 uc3) ∧ w'.cell? ⟨w6.heap.size, 0, none⟩ = some (.slice vp1 vn1 vc1) ∧ w'.cell? ⟨w6.heap.size, 1, none⟩ = some (.slice vp2 vn2 vc2) ∧ w'.cell? ⟨w6.heap.size, 2, none⟩ = some (.slice vp3 vn3 vc3) ∧ w'.cell? ⟨w9.heap.size, 0, none⟩ = some (.slice wwp1 wwn1 wwc1) ∧ w'.cell? ⟨w9.heap.size, 1, none⟩ = some (.slice wwp2 wwn2 wwc2) ∧ w'.cell? ⟨w9.heap.size, 2, none⟩ = some (.slice wwp3 wwn3 wwc3) ∧ w'.cell? ⟨w11.heap.size, 0, none⟩ = some (.slice zp1 zn1 zc1) ∧ w'.cell? ⟨w11.heap.size, 1, none⟩ = some (.slice zp2 zn2 zc2) ∧ w'.cell? ⟨w11.heap.size, 2, none⟩ = some (.slice zp3 zn3 zc3))
        (refine ⟨?_, ?_, ?_, ?_, ?_, ?_, ?_, ?_, ?_, ?_, ?_, ?_, ?_, ?_, ?_, ?_, ?_, ?_⟩ <;> first | (with_reducible assumption) | exact ((Ext.refl _).drew).cell (by with_reducible assumption) | exact ((Ext.refl _).alloc _).cell (by with_reducible assumption) | (simp [*]; done))
        (first | (go_at_call 16; (with_reducible refine (same_same _ _ _ _ _ _ _ _ w12.drew (ov.tens.ext (h7.trans (h8.trans (h9.trans (h10.trans (h11.trans (h12.trans h13))))))) (oa.tens.ext (h4.trans (h5.trans (h6.trans (h7.trans (h8.trans (h9.trans (h10.trans (h11.trans (h12.trans h13)))))))))) rfl rfl rfl).mono ?_); rintro e14 w14 ⟨rfl, h14⟩; have c14_0 := (h13.trans h14).cell ir0_12; have c14_1 := (h13.trans h14).cell ir1_12; have c14_2 := (h13.trans h14).cell ir2_12; have c14_3 := (h13.trans h14).cell ia0_12; have c14_4 := (h13.trans h14).cell ia1_12; have c14_5 := (h13.trans h14).cell ia2_12; have c14_6 := (h13.trans h14).cell iu0_12; have c14_7 := (h13.trans h14).cell iu1_12; have c14_8 := (h13.trans h14).cell iu2_12; have c14_9 := (h13.trans h14).cell iv0_12; have c14_10 := (h13.trans h14).cell iv1_12; have c14_11 := (h13.trans h14).cell iv2_12; have c14_12 := (h13.trans h14).cell iww0_12; have c14_13 := (h13.trans h14).cell iww1_12; have c14_14 := (h13.trans h14).cell iww2_12; have c14_15 := (h13.trans h14).cell iz0_12; have c14_16 := (h13.trans h14).cell iz1_12; have c14_17 := (h13.trans h14).cell iz2_12) | (go_at_call 18; (with_reducible refine (sameTensor_yes HR.out Ta.out Tu.out HPS.out.1 HPS.out.2 _ _ w14 (oa.tens.ext (h4.trans (h5.trans (h6.trans (h7.trans (h8.trans (h9.trans (h10.trans (h11.trans (h12.trans (h13.trans h14))))))))))) (ou.tens.ext (h6.trans (h7.trans (h8.trans (h9.trans (h10.trans (h11.trans (h12.trans (h13.trans h14)))))))))).mono ?_); rintro e15 w15 ⟨rfl, h15⟩; have c15_0 := (h13.trans (h14.trans h15)).cell ir0_12; have c15_1 := (h13.trans (h14.trans h15)).cell ir1_12; have c15_2 := (h13.trans (h14.trans h15)).cell ir2_12; have c15_3 := (h13.trans (h14.trans h15)).cell ia0_12; have c15_4 := (h13.trans (h14.trans h15)).cell ia1_12; have c15_5 := (h13.trans (h14.trans h15)).cell ia2_12; have c15_6 := (h13.trans (h14.trans h15)).cell iu0_12; have c15_7 := (h13.trans (h14.trans h15)).cell iu1_12; have c15_8 := (h13.trans (h14.trans h15)).cell iu2_12; have c15_9 := (h13.trans (h14.trans h15)).cell iv0_12; have c15_10 := (h13.trans (h14.trans h15)).cell iv1_12; have c15_11 := (h13.trans (h14.trans h15)).cell iv2_12; have c15_12 := (h13.trans (h14.trans h15)).cell iww0_12; have c15_13 := (h13.trans (h14.trans h15)).cell iww1_12; have c15_14 := (h13.trans (h14.trans h15)).cell iww2_12; have c15_15 := (h13.trans (h14.trans h15)).cell iz0_12; have c15_16 := (h13.trans (h14.trans h15)).cell iz1_12; have c15_17 := (h13.trans (h14.trans h15)).cell iz2_12) | (go_at_call 26; (with_reducible refine (sortTensor_any HR.out Tu.out _ w15 (ou.tens.ext (h6.trans (h7.trans (h8.trans (h9.trans (h10.trans (h11.trans (h12.trans (h13.trans (h14.trans h15))))))))))).mono ?_); rintro e16 w16 ⟨vq, rfl, oq, h16⟩; obtain ⟨qqp1, qqn1, qqc1, qqp2, qqn2, qqc2, qqp3, qqn3, qqc3, rfl⟩ := oq.shape; have c16_0 := (h13.trans (h14.trans (h15.trans h16))).cell ir0_12; have c16_1 := (h13.trans (h14.trans (h15.trans h16))).cell ir1_12; have c16_2 := (h13.trans (h14.trans (h15.trans h16))).cell ir2_12; have c16_3 := (h13.trans (h14.trans (h15.trans h16))).cell ia0_12; have c16_4 := (h13.trans (h14.trans (h15.trans h16))).cell ia1_12; have c16_5 := (h13.trans (h14.trans (h15.trans h16))).cell ia2_12; have c16_6 := (h13.trans (h14.trans (h15.trans h16))).cell iu0_12; have c16_7 := (h13.trans (h14.trans (h15.trans h16))).cell iu1_12; have c16_8 := (h13.trans (h14.trans (h15.trans h16))).cell iu2_12; have c16_9 := (h13.trans (h14.trans (h15.trans h16))).cell iv0_12; have c16_10 := (h13.trans (h14.trans (h15.trans h16))).cell iv1_12; have c16_11 := (h13.trans (h14.trans (h15.trans h16))).cell iv2_12; have c16_12 := (h13.trans (h14.trans (h15.trans h16))).cell iww0_12; have c16_13 := (h13.trans (h14.trans (h15.trans h16))).cell iww1_12; have c16_14 := (h13.trans (h14.trans (h15.trans h16))).cell iww2_12; have c16_15 := (h13.trans (h14.trans (h15.trans h16))).cell iz0_12; have c16_16 := (h13.trans (h14.trans (h15.trans h16))).cell iz1_12; have c16_17 := (h13.trans (h14.trans (h15.trans h16))).cell iz2_12) | (go_at_call 26; (with_reducible refine (sortTensor_any HR.out Ta.out _ w16 (oa.tens.ext (h4.trans (h5.trans (h6.trans (h7.trans (h8.trans (h9.trans (h10.trans (h11.trans (h12.trans (h13.trans (h14.trans (h15.trans h16)))))))))))))).mono ?_); rintro e17 w17 ⟨vs, rfl, os, h17⟩; obtain ⟨ssp1, ssn1, ssc1, ssp2, ssn2, ssc2, ssp3, ssn3, ssc3, rfl⟩ := os.shape; have c17_0 := (h13.trans (h14.trans (h15.trans (h16.trans h17)))).cell ir0_12; have c17_1 := (h13.trans (h14.trans (h15.trans (h16.trans h17)))).cell ir1_12; have c17_2 := (h13.trans (h14.trans (h15.trans (h16.trans h17)))).cell ir2_12; have c17_3 := (h13.trans (h14.trans (h15.trans (h16.trans h17)))).cell ia0_12; have c17_4 := (h13.trans (h14.trans (h15.trans (h16.trans h17)))).cell ia1_12; have c17_5 := (h13.trans (h14.trans (h15.trans (h16.trans h17)))).cell ia2_12; have c17_6 := (h13.trans (h14.trans (h15.trans (h16.trans h17)))).cell iu0_12; have c17_7 := (h13.trans (h14.trans (h15.trans (h16.trans h17)))).cell iu1_12; have c17_8 := (h13.trans (h14.trans (h15.trans (h16.trans h17)))).cell iu2_12; have c17_9 := (h13.trans (h14.trans (h15.trans (h16.trans h17)))).cell iv0_12; have c17_10 := (h13.trans (h14.trans (h15.trans (h16.trans h17)))).cell iv1_12; have c17_11 := (h13.trans (h14.trans (h15.trans (h16.trans h17)))).cell iv2_12; have c17_12 := (h13.trans (h14.trans (h15.trans (h16.trans h17)))).cell iww0_12; have c17_13 := (h13.trans (h14.trans (h15.trans (h16.trans h17)))).cell iww1_12; have c17_14 := (h13.trans (h14.trans (h15.trans (h16.trans h17)))).cell iww2_12; have c17_15 := (h13.trans (h14.trans (h15.trans (h16.trans h17)))).cell iz0_12; have c17_16 := (h13.trans (h14.trans (h15.trans (h16.trans h17)))).cell iz1_12; have c17_17 := (h13.trans (h14.trans (h15.trans (h16.trans h17)))).cell iz2_12) | (go_at_call 16; (with_reducible refine (same_same _ _ _ _ _ _ _ _ w17 (oq.tens.ext h17) os.tens HPS.out.1.symm (by rw [HPS.out.1]) (by rw [HPS.out.2])).mono ?_); rintro e18 w18 ⟨rfl, h18⟩; have c18_0 := (h13.trans (h14.trans (h15.trans (h16.trans (h17.trans h18))))).cell ir0_12; have c18_1 := (h13.trans (h14.trans (h15.trans (h16.trans (h17.trans h18))))).cell ir1_12; have c18_2 := (h13.trans (h14.trans (h15.trans (h16.trans (h17.trans h18))))).cell ir2_12; have c18_3 := (h13.trans (h14.trans (h15.trans (h16.trans (h17.trans h18))))).cell ia0_12; have c18_4 := (h13.trans (h14.trans (h15.trans (h16.trans (h17.trans h18))))).cell ia1_12; have c18_5 := (h13.trans (h14.trans (h15.trans (h16.trans (h17.trans h18))))).cell ia2_12; have c18_6 := (h13.trans (h14.trans (h15.trans (h16.trans (h17.trans h18))))).cell iu0_12; have c18_7 := (h13.trans (h14.trans (h15.trans (h16.trans (h17.trans h18))))).cell iu1_12; have c18_8 := (h13.trans (h14.trans (h15.trans (h16.trans (h17.trans h18))))).cell iu2_12; have c18_9 := (h13.trans (h14.trans (h15.trans (h16.trans (h17.trans h18))))).cell iv0_12; have c18_10 := (h13.trans (h14.trans (h15.trans (h16.trans (h17.trans h18))))).cell iv1_12; have c18_11 := (h13.trans (h14.trans (h15.trans (h16.trans (h17.trans h18))))).cell iv2_12; have c18_12 := (h13.trans (h14.trans (h15.trans (h16.trans (h17.trans h18))))).cell iww0_12; have c18_13 := (h13.trans (h14.trans (h15.trans (h16.trans (h17.trans h18))))).cell iww1_12; have c18_14 := (h13.trans (h14.trans (h15.trans (h16.trans (h17.trans h18))))).cell iww2_12; have c18_15 := (h13.trans (h14.trans (h15.trans (h16.trans (h17.trans h18))))).cell iz0_12; have c18_16 := (h13.trans (h14.trans (h15.trans (h16.trans (h17.trans h18))))).cell iz1_12; have c18_17 := (h13.trans (h14.trans (h15.trans (h16.trans (h17.trans h18))))).cell iz2_12) | (go_at_call 16; (with_reducible refine (same_same _ _ _ _ _ _ _ _ w18 (oz.tens.ext (h12.trans (h13.trans (h14.trans (h15.trans (h16.trans (h17.trans h18))))))) (oa.tens.ext (h4.trans (h5.trans (h6.trans (h7.trans (h8.trans (h9.trans (h10.trans (h11.trans (h12.trans (h13.trans (h14.trans (h15.trans (h16.trans (h17.trans h18))))))))))))))) rfl rfl rfl).mono ?_); rintro e19 w19 ⟨rfl, h19⟩; have c19_0 := (h13.trans (h14.trans (h15.trans (h16.trans (h17.trans (h18.trans h19)))))).cell ir0_12; have c19_1 := (h13.trans (h14.trans (h15.trans (h16.trans (h17.trans (h18.trans h19)))))).cell ir1_12; have c19_2 := (h13.trans (h14.trans (h15.trans (h16.trans (h17.trans (h18.trans h19)))))).cell ir2_12; have c19_3 := (h13.trans (h14.trans (h15.trans (h16.trans (h17.trans (h18.trans h19)))))).cell ia0_12; have c19_4 := (h13.trans (h14.trans (h15.trans (h16.trans (h17.trans (h18.trans h19)))))).cell ia1_12; have c19_5 := (h13.trans (h14.trans (h15.trans (h16.trans (h17.trans (h18.trans h19)))))).cell ia2_12; have c19_6 := (h13.trans (h14.trans (h15.trans (h16.trans (h17.trans (h18.trans h19)))))).cell iu0_12; have c19_7 := (h13.trans (h14.trans (h15.trans (h16.trans (h17.trans (h18.trans h19)))))).cell iu1_12; have c19_8 := (h13.trans (h14.trans (h15.trans (h16.trans (h17.trans (h18.trans h19)))))).cell iu2_12; have c19_9 := (h13.trans (h14.trans (h15.trans (h16.trans (h17.trans (h18.trans h19)))))).cell iv0_12; have c19_10 := (h13.trans (h14.trans (h15.trans (h16.trans (h17.trans (h18.trans h19)))))).cell iv1_12; have c19_11 := (h13.trans (h14.trans (h15.trans (h16.trans (h17.trans (h18.trans h19)))))).cell iv2_12; have c19_12 := (h13.trans (h14.trans (h15.trans (h16.trans (h17.trans (h18.trans h19)))))).cell iww0_12; have c19_13 := (h13.trans (h14.trans (h15.trans (h16.trans (h17.trans (h18.trans h19)))))).cell iww1_12; have c19_14 := (h13.trans (h14.trans (h15.trans (h16.trans (h17.trans (h18.trans h19)))))).cell iww2_12; have c19_15 := (h13.trans (h14.trans (h15.trans (h16.trans (h17.trans (h18.trans h19)))))).cell iz0_12; have c19_16 := (h13.trans (h14.trans (h15.trans (h16.trans (h17.trans (h18.trans h19)))))).cell iz1_12; have c19_17 := (h13.trans (h14.trans (h15.trans (h16.trans (h17.trans (h18.trans h19)))))).cell iz2_12) | (go_at_call 27; (with_reducible refine (ints_sameE _ _ _ _ w19 (oww.tens.ext (h10.trans (h11.trans (h12.trans (h13.trans (h14.trans (h15.trans (h16.trans (h17.trans (h18.trans h19)))))))))).dataP (oa.tens.ext (h4.trans (h5.trans (h6.trans (h7.trans (h8.trans (h9.trans (h10.trans (h11.trans (h12.trans (h13.trans (h14.trans (h15.trans (h16.trans (h17.trans (h18.trans h19)))))))))))))))).dataP rfl).mono ?_); rintro e20 w20 ⟨rfl, h20⟩; have c20_0 := (h13.trans (h14.trans (h15.trans (h16.trans (h17.trans (h18.trans (h19.trans h20))))))).cell ir0_12; have c20_1 := (h13.trans (h14.trans (h15.trans (h16.trans (h17.trans (h18.trans (h19.trans h20))))))).cell ir1_12; have c20_2 := (h13.trans (h14.trans (h15.trans (h16.trans (h17.trans (h18.trans (h19.trans h20))))))).cell ir2_12; have c20_3 := (h13.trans (h14.trans (h15.trans (h16.trans (h17.trans (h18.trans (h19.trans h20))))))).cell ia0_12; have c20_4 := (h13.trans (h14.trans (h15.trans (h16.trans (h17.trans (h18.trans (h19.trans h20))))))).cell ia1_12; have c20_5 := (h13.trans (h14.trans (h15.trans (h16.trans (h17.trans (h18.trans (h19.trans h20))))))).cell ia2_12; have c20_6 := (h13.trans (h14.trans (h15.trans (h16.trans (h17.trans (h18.trans (h19.trans h20))))))).cell iu0_12; have c20_7 := (h13.trans (h14.trans (h15.trans (h16.trans (h17.trans (h18.trans (h19.trans h20))))))).cell iu1_12; have c20_8 := (h13.trans (h14.trans (h15.trans (h16.trans (h17.trans (h18.trans (h19.trans h20))))))).cell iu2_12; have c20_9 := (h13.trans (h14.trans (h15.trans (h16.trans (h17.trans (h18.trans (h19.trans h20))))))).cell iv0_12; have c20_10 := (h13.trans (h14.trans (h15.trans (h16.trans (h17.trans (h18.trans (h19.trans h20))))))).cell iv1_12; have c20_11 := (h13.trans (h14.trans (h15.trans (h16.trans (h17.trans (h18.trans (h19.trans h20))))))).cell iv2_12; have c20_12 := (h13.trans (h14.trans (h15.trans (h16.trans (h17.trans (h18.trans (h19.trans h20))))))).cell iww0_12; have c20_13 := (h13.trans (h14.trans (h15.trans (h16.trans (h17.trans (h18.trans (h19.trans h20))))))).cell iww1_12; have c20_14 := (h13.trans (h14.trans (h15.trans (h16.trans (h17.trans (h18.trans (h19.trans h20))))))).cell iww2_12; have c20_15 := (h13.trans (h14.trans (h15.trans (h16.trans (h17.trans (h18.trans (h19.trans h20))))))).cell iz0_12; have c20_16 := (h13.trans (h14.trans (h15.trans (h16.trans (h17.trans (h18.trans (h19.trans h20))))))).cell iz1_12; have c20_17 := (h13.trans (h14.trans (h15.trans (h16.trans (h17.trans (h18.trans (h19.trans h20))))))).cell iz2_12))
      go_wp2
      go_ret
      exact ⟨rfl, (h1.trans (h2.trans (h3.trans (h4.trans (h5.trans (h6.trans (h7.trans (h8.trans (h9.trans (h10.trans (h11.trans (h12.trans (h13.trans (h14.trans (h15.trans (h16.trans (h17.trans (h18.trans (h19.trans h20)))))))))))))))))))⟩
end Go.Proofs.Ytabeciopggofkaa
