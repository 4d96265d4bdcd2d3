/- MakeLike: a tensor with the axes of another one in some order. -/
import Derived.Test.YtabeciopggofkaaYBase
import Derived.Test.YtabeciopggofkaaYL06W
namespace Go.Proofs.Ytabeciopggofkaa
open Go.RowKit
set_option linter.unusedSimpArgs false
set_option linter.unusedVariables false
/-- Only a block below has changed. -/
theorem OwnT.only' {w w' : World} {B b : Nat} {v : Value} {L D X : List Int} (h : OwnT w B v L D X) (g : w.grownBy w' (some b)) (hb : b < B) : OwnT w' B v L D X := h.onlyB g hb
section
variable {k p n : Int} (hr : ringOk k p n = true)
include hr
set_option maxRecDepth 100000 in
set_option maxHeartbeats 2000000 in
theorem makeLike_any {dm : Int → Int} {U L X : List Int} {B : Nat} (u : Uni dm U) (s : Sub U L) (v va : Value) (l : List Int) (c : Int) (w : World) (hl : Code w v l) (hn : 0 ≤ c ∧ c ≤ 1000000) (ho : OwnT w B va L (L.map dm) X) :
    Calls Try.prog 28 #[v, .int .i64 c, ringV k p n, va] w fun e w' => ∃ (t : Value) (M : List Int) (ys : List (El k p n)), e = .returned t ∧ OwnT w' w.heap.size t M (M.map dm) (flat ys) ∧ M.Perm L ∧ IsT k p n dm U M ys ∧ Ext w w' := by
  have ha := ho.tens
  obtain ⟨ca, cap, rfl, _, _⟩ := hl.bytes.val
  have ha0 := ha
  obtain ⟨ap1, an1, ac1, ap2, an2, ac2, ap3, an3, ac3, rfl⟩ := ha.shape
  obtain ⟨_, _, _, hvv, haL, haD, haX⟩ := ha.val
  simp at hvv
  obtain ⟨rfl, rfl, rfl⟩ := hvv
  obtain ⟨_, _, _, hvv, _, oaD, _, _, _⟩ := ho.val
  simp at hvv
  obtain ⟨rfl, rfl, rfl⟩ := hvv
  have NDb : Hid (∀ q, (Value.slice ap2 an2 ac2).ownBlock = some q → q < w.heap.size) := Lib.hid fun q hq => (oaD.block_lt hq).2
  clear oaD ho
  have AX := Lib.hid (u.ax s)
  have HU := Lib.hid u; have HSU := Lib.hid s; clear u s
  have HR := Lib.hid hr
  have hlL : L.length ≤ 12 := AX.out.rank
  generalize hW1 : (((w.alloc (.cells #[.int .i64 k, .int .i64 p, .int .i64 n] 24)).alloc (.cells #[.slice ap1 an1 ac1, .slice ap2 an2 ac2, .slice ap3 an3 ac3] 31)).alloc (.cells #[.slice none 0 0, .slice none 0 0, .slice none 0 0] 31)) = w1
  have h1 : Ext w w1 := by rw [← hW1]; exact (by repeat' (first | (with_reducible exact Ext.refl _) | (with_reducible assumption) | (with_reducible apply Ext.alloc) | (with_reducible apply Ext.drew) | (with_reducible apply Ext.drewN) | (refine Ext.setAt ?_ (by omega) _ _) | (refine Ext.trans ?_ (by assumption))))
  have Br : Blk w1 (w.heap.size) 24 [.int .i64 k, .int .i64 p, .int .i64 n] := by rw [← hW1]; exact (((Blk.newB (c := #[_, _, _]) (by simp)).alloc _).alloc _)
  have Ba : Blk w1 (w.heap.size + 1) 31 [.slice ap1 an1 ac1, .slice ap2 an2 ac2, .slice ap3 an3 ac3] := by rw [← hW1]; exact ((Blk.newB (c := #[_, _, _]) (by simp)).alloc _)
  have Bz : Blk w1 (w.heap.size + 2) 31 [.slice none 0 0, .slice none 0 0, .slice none 0 0] := by rw [← hW1]; exact (Blk.newB (c := #[_, _, _]) (by simp))
  have HS1 : Hid (w1.heap.size = w.heap.size + 3) := Lib.hid (by rw [← hW1]; simp)
  have HW := Lib.hid hW1; clear hW1
  go_enter Try.func28, Try.ntmps28
  go_wp2_with fail
  rw [HW.out]
  refine (l45At_any _ l _ _ (hl.ext h1) hn).mono ?_; rintro e2 w2 ⟨b, rfl, hb, c2, h2⟩
  have B2r := Br.ext h2
  have B2a := Ba.ext h2
  have B2z := Bz.ext h2
  have j2r_0 := B2r.cell (j := 0) rfl
  have j2r_1 := B2r.cell (j := 1) rfl
  have j2r_2 := B2r.cell (j := 2) rfl
  have j2a_0 := B2a.cell (j := 0) rfl
  have j2a_1 := B2a.cell (j := 1) rfl
  have j2a_2 := B2a.cell (j := 2) rfl
  have l2r := B2r.lt
  have l2a := B2a.lt
  have l2z := B2z.lt
  have hbl2 : b < w2.heap.size := c2.lt
  have hs1 := HS1.out
  have HB : Hid (w.heap.size + 3 ≤ b) := Lib.hid (by omega)
  go_wp2_with fail
  refine (l05Fill_any b k p n HR.out _ _ L (L.map dm) AX.out _ c2 (haL.ext (h1.trans h2)) (haD.ext (h1.trans h2)) (fun q hq => by have := NDb.out q hq; have := HB.out; have := h2.size; omega)).mono ?_; rintro e3 w3 ⟨v3, X3, rfl, o3, hX3, hT3, c3, g3⟩
  obtain ⟨up1, un1, uc1, up2, un2, uc2, up3, un3, uc3, rfl⟩ := o3.shape
  have E3 : Ext w1 w3 := h2.only g3 (fun q hq => by injection hq with hq; omega)
  clear j2r_0 j2r_1 j2r_2 j2a_0 j2a_1 j2a_2 l2r l2a l2z
  have B3r := Br.ext E3
  have B3a := Ba.ext E3
  have B3z := Bz.ext E3
  have j3r_0 := B3r.cell (j := 0) rfl
  have j3r_1 := B3r.cell (j := 1) rfl
  have j3r_2 := B3r.cell (j := 2) rfl
  have j3a_0 := B3a.cell (j := 0) rfl
  have j3a_1 := B3a.cell (j := 1) rfl
  have j3a_2 := B3a.cell (j := 2) rfl
  have l3r := B3r.lt
  have l3a := B3a.lt
  have l3z := B3z.lt
  go_wp2_with fail
  generalize hW4 : w3.alloc (.cells #[.slice up1 un1 uc1, .slice up2 un2 uc2, .slice up3 un3 uc3] 31) = w4
  have h4 : Ext w3 w4 := by rw [← hW4]; exact (Ext.refl _).alloc _
  have Bu : Blk w4 w3.heap.size 31 [.slice up1 un1 uc1, .slice up2 un2 uc2, .slice up3 un3 uc3] := by rw [← hW4]; exact Blk.new w3 #[_, _, _] 31
  have hs4 : w4.heap.size = w3.heap.size + 1 := by rw [← hW4]; simp
  have HS4 := Lib.hid hs4; clear hs4
  clear hW4
  obtain ⟨ys, hyl, rfl⟩ : ∃ ys : List (El k p n), ys.length = size (axs dm L) ∧ flat ys = X3 := by
    obtain ⟨W, hW⟩ : ∃ W : Nat, ringWidth k n = W := ⟨(ringWidth k n).toNat, by have := (ringOk_wide HR.out).lo; omega⟩
    refine flat_of hW ?_ hT3
    have hs := HU.out.size HSU.out
    rw [← hs, hW] at hX3
    exact Int.ofNat.inj (by show ((X3.length : Nat) : Int) = ((size (axs dm L) * W : Nat) : Int); rw [hX3, Int.natCast_mul])
  have HT := Lib.hid (show IsT k p n dm _ L ys from ⟨HU.out, HSU.out, hyl⟩)
  clear hX3 hT3 hyl
  have E4 : Ext w1 w4 := E3.trans h4
  clear j3r_0 j3r_1 j3r_2 j3a_0 j3a_1 j3a_2 l3r l3a l3z
  have B4r := Br.ext E4
  have B4a := Ba.ext E4
  have B4z := Bz.ext E4
  have j4r_0 := B4r.cell (j := 0) rfl
  have j4r_1 := B4r.cell (j := 1) rfl
  have j4r_2 := B4r.cell (j := 2) rfl
  have j4a_0 := B4a.cell (j := 0) rfl
  have j4a_1 := B4a.cell (j := 1) rfl
  have j4a_2 := B4a.cell (j := 2) rfl
  have l4r := B4r.lt
  have l4a := B4a.lt
  have l4z := B4z.lt
  have ju_0 := Bu.cell (j := 0) rfl
  have ju_1 := Bu.cell (j := 1) rfl
  have ju_2 := Bu.cell (j := 2) rfl
  have lu := Bu.lt
  have hbl : b < w3.heap.size := c3.lt
  have D0 : Ext w4 w4.drew := (Ext.refl _).drew
  have c4 := (c3.ext h4).ext D0
  have haL4 := haL.ext ((h1.trans E4).trans D0)
  have hnr : w.heap.size ≠ w.heap.size + 1 + 1 := by omega
  have hna : w.heap.size + 1 ≠ w.heap.size + 1 + 1 := by omega
  have hs2 := h2.size
  have hs3 := E3.size
  have hnu : w3.heap.size ≠ w.heap.size + 1 + 1 := by have := HB.out; omega
  go_upto_region 3 with fail
  go_region_held3 (fun w' => w'.cell? ⟨w.heap.size, 0, none⟩ = some (.int .i64 k) ∧ w'.cell? ⟨w.heap.size, 1, none⟩ = some (.int .i64 p) ∧ w'.cell? ⟨w.heap.size, 2, none⟩ = some (.int .i64 n) ∧ w'.cell? ⟨w.heap.size + 1, 0, none⟩ = some (.slice ap1 an1 ac1) ∧ w'.cell? ⟨w.heap.size + 1, 1, none⟩ = some (.slice ap2 an2 ac2) ∧ w'.cell? ⟨w.heap.size + 1, 2, none⟩ = some (.slice ap3 an3 ac3) ∧ w'.cell? ⟨w3.heap.size, 0, none⟩ = some (.slice up1 un1 uc1) ∧ w'.cell? ⟨w3.heap.size, 1, none⟩ = some (.slice up2 un2 uc2) ∧ w'.cell? ⟨w3.heap.size, 2, none⟩ = some (.slice up3 un3 uc3))
    (first | (with_reducible exact ⟨D0.cell j4r_0, D0.cell j4r_1, D0.cell j4r_2, D0.cell j4a_0, D0.cell j4a_1, D0.cell j4a_2, D0.cell ju_0, D0.cell ju_1, D0.cell ju_2⟩) | (with_reducible exact ⟨xr_0, xr_1, xr_2, xa_0, xa_1, xa_2, xu_0, xu_1, xu_2⟩) | (with_reducible exact ⟨yr_0, yr_1, yr_2, ya_0, ya_1, ya_2, yu_0, yu_1, yu_2⟩) | (with_reducible exact ⟨grown_cell (b := w.heap.size + 1 + 1) (grown_setCell (grown_setCell (grown_setCell (grown_refl _ _) _ _) _ _) _ _) hnr yr_0, grown_cell (b := w.heap.size + 1 + 1) (grown_setCell (grown_setCell (grown_setCell (grown_refl _ _) _ _) _ _) _ _) hnr yr_1, grown_cell (b := w.heap.size + 1 + 1) (grown_setCell (grown_setCell (grown_setCell (grown_refl _ _) _ _) _ _) _ _) hnr yr_2, grown_cell (b := w.heap.size + 1 + 1) (grown_setCell (grown_setCell (grown_setCell (grown_refl _ _) _ _) _ _) _ _) hna ya_0, grown_cell (b := w.heap.size + 1 + 1) (grown_setCell (grown_setCell (grown_setCell (grown_refl _ _) _ _) _ _) _ _) hna ya_1, grown_cell (b := w.heap.size + 1 + 1) (grown_setCell (grown_setCell (grown_setCell (grown_refl _ _) _ _) _ _) _ _) hna ya_2, grown_cell (b := w.heap.size + 1 + 1) (grown_setCell (grown_setCell (grown_setCell (grown_refl _ _) _ _) _ _) _ _) hnu yu_0, grown_cell (b := w.heap.size + 1 + 1) (grown_setCell (grown_setCell (grown_setCell (grown_refl _ _) _ _) _ _) _ _) hnu yu_1, grown_cell (b := w.heap.size + 1 + 1) (grown_setCell (grown_setCell (grown_setCell (grown_refl _ _) _ _) _ _) _ _) hnu yu_2⟩))
    (first | (go_at_call 70; (with_reducible refine (l06Shuffle_any b _ L w4.drew c4 haL4 (by omega)).mono ?_); rintro e5 w5 ⟨v5, M, rfl, o5, hp, c5, g5⟩; have E5 : Ext w1 w5 := (E4.trans D0).only g5 (fun q hq => by injection hq with hq; have := HB.out; omega); have Bu5 := (Bu.ext D0).block (g5.block _ (by have := D0.size; omega) (fun e => by injection e with e; omega)); have HP := Lib.hid hp; clear hp; obtain ⟨a5, k5, rfl, _, _⟩ := o5.ints.val; have HO3 := (o3.tens.ext (h4.trans D0)); have hs45 := g5.size; have OU := ((o3.ext h4).ext D0).only' g5 (by have := HB.out; omega); have xr_0 := (Br.ext E5).cell (j := 0) rfl; have xr_1 := (Br.ext E5).cell (j := 1) rfl; have xr_2 := (Br.ext E5).cell (j := 2) rfl; have xa_0 := (Ba.ext E5).cell (j := 0) rfl; have xa_1 := (Ba.ext E5).cell (j := 1) rfl; have xa_2 := (Ba.ext E5).cell (j := 2) rfl; have xu_0 := Bu5.cell (j := 0) rfl; have xu_1 := Bu5.cell (j := 1) rfl; have xu_2 := Bu5.cell (j := 2) rfl) | (go_at_call 75; (with_reducible refine (l06Permute_some HR.out HT.out HP.out.symm _ _ w5 OU.tens o5.ints).mono ?_); rintro e6 w6 ⟨v6, zs, rfl, o6, hIs, h6⟩; have HIS := Lib.hid hIs; clear hIs; obtain ⟨fp1, fn1, fc1, fp2, fn2, fc2, fp3, fn3, fc3, rfl⟩ := o6.shape; have E6 : Ext w1 w6 := E5.trans h6; have yr_0 := (Br.ext E6).cell (j := 0) rfl; have yr_1 := (Br.ext E6).cell (j := 1) rfl; have yr_2 := (Br.ext E6).cell (j := 2) rfl; have ya_0 := (Ba.ext E6).cell (j := 0) rfl; have ya_1 := (Ba.ext E6).cell (j := 1) rfl; have ya_2 := (Ba.ext E6).cell (j := 2) rfl; have yu_0 := (Bu5.ext h6).cell (j := 0) rfl; have yu_1 := (Bu5.ext h6).cell (j := 1) rfl; have yu_2 := (Bu5.ext h6).cell (j := 2) rfl; have Bz6 := Bz.ext E6; have f0 := Bz6.free 0; have f1 := Bz6.free 1; have f2 := Bz6.free 2; have z0 := Bz6.cell (j := 0) rfl; have z1 := Bz6.cell (j := 1) rfl; have z2 := Bz6.cell (j := 2) rfl; have lz6 := Bz6.lt))
  have hs5 := E5.size
  have hlt3 : w.heap.size + 1 + 1 < w5.heap.size := by omega
  go_wp2
  refine bodyPost_ret (v := .agg #[.slice fp1 fn1 fc1, .slice fp2 fn2 fc2, .slice fp3 fn3 fc3]) (by simp [results, Try.results28, go_sem, *]) rfl ?_
  exact ⟨_, M, zs, rfl, (((o6.setBelow hlt3 _).setBelow hlt3 _).setBelow hlt3 _).mono (by omega), HP.out, HIS.out, (((h1.trans E6).setAt (by omega) _ _).setAt (by omega) _ _).setAt (by omega) _ _⟩
end
end Go.Proofs.Ytabeciopggofkaa
