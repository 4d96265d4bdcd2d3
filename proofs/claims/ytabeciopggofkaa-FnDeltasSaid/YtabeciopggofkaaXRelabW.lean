/- MakeList; renamed, RelabelTensor of the program. -/
import Derived.Test.YtabeciopggofkaaXBase
import Derived.Test.YtabeciopggofkaaXSortT
import Derived.Test.YtabeciopggofkaaXDrawT
import Derived.Test.YtabeciopggofkaaXScalT
import Derived.Test.YtabeciopggofkaaXIntoO
namespace Go.Proofs.Ytabeciopggofkaa
open Go.RowKit
set_option linter.unusedSimpArgs false
set_option linter.unusedVariables false

/-- 'renamed' -/
def renL (F G : List Int) (x : Int) : Int := match F, G with
  | f :: F, g :: G => if f = x then g else renL F G x
  | _, _ => x
theorem renL_nil (G : List Int) (x : Int) : renL [] G x = x := by cases G <;> rfl
theorem renamed_any (vF vG : Value) (F G : List Int) (x : Int) (w : World) (hF : IntS w vF F) (hG : IntS w vG G) (hl : F.length = G.length) : Calls Try.prog 72 #[.int .i64 x, vF, vG] w fun e w' =>
    e = .returned (.int .i64 (renL F G x)) ∧ w = w' := by
  obtain ⟨aF, cF, rfl, _, _⟩ := hF.val
  obtain ⟨aG, cG, rfl, _, _⟩ := hG.val
  have HL := Lib.hid hl; clear hl
  go_enter Try.func72, Try.ntmps72
  go_wp2
  go_loop [11] (fun i => ∃ j : Nat, j ≤ F.length ∧ i = .int .i64 j ∧ renL (F.drop j) (G.drop j) x = renL F G x) (fun i => F.length - (RowKit.intOf i).toNat)
  case atStart => exact ⟨0, Nat.zero_le _, rfl, rfl⟩
  case round =>
    obtain ⟨j, hj, rfl, hq⟩ := hrel
    have HQ := Lib.hid hq; clear hq
    by_cases hlt : j < F.length
    · obtain ⟨b, off, y, rfl, hcell, hy, hd⟩ := hF.get hlt
      obtain ⟨b2, off2, z, rfl, hcell2, hz, hd2⟩ := hG.get (i := j) (by have := HL.out; omega)
      have hq := HQ.out
      rw [hd, hd2, renL] at hq
      have HQ2 := Lib.hid hq
      have hjg : j < G.length := by have := HL.out; omega
      clear hq hd hd2 hy hz
      by_cases hxy : y = x
      · subst hxy
        go_wp2
        go_ret
        exact ⟨ret_int (by simpa using HQ2.out), rfl⟩
      · go_wp2
        go_round
        case rel => exact ⟨j + 1, by omega, by go_num, by have := HQ2.out; rw [if_neg hxy] at this; exact this⟩
        case measure => simp [RowKit.intOf]; omega
    · have : j = F.length := by omega
      subst this
      go_wp2
      go_ret
      exact ⟨ret_int (by rw [← HQ.out, drop_len, renL_nil]), rfl⟩

set_option maxRecDepth 100000 in
set_option maxHeartbeats 4000000 in
theorem relabelTensor_any (k p n : Int) (hr : ringOk k p n = true) {L D X F G : List Int} (ht : TOk k p n L D X) (hax : AxOk (L.map (renL F G)) D) (hFG : F.length = G.length) (va vF vG : Value) (w : World) (ha : TenS w va L D X) (hF : IntS w vF F) (hG : IntS w vG G) :
    Calls Try.prog 25 #[ringV k p n, va, vF, vG] w fun e w' => ∃ u, e = .returned (.tuple #[u, .bool true]) ∧ OwnT w' w.heap.size u (L.map (renL F G)) D X ∧ Ext w w' := by
  obtain ⟨aF, cF, rfl, _, _⟩ := hF.val
  obtain ⟨aG, cG, rfl, _, _⟩ := hG.val
  obtain ⟨P, W, hP, hW, hP1, hP2, hW1, hW6, hXl⟩ := ht.nat hr
  have hPW : P * W ≤ 4096 * 6 := Nat.mul_le_mul hP2 hW6
  have hX9 : X.length ≤ 1048576 := by omega
  have hrk := ht.ax.rank
  have hln := ht.ax.len
  have hdl : D.length ≤ 12 := by omega
  have HY := Lib.hid ((tensOk_iff hr).2 ht)
  have HZ : Hid (tensOk k p n (L.map (renL F G)) D X = true) := Lib.hid ((tensOk_iff hr).2 ⟨hax, ht.len, ht.top⟩)
  have hne : ((F.length : Int) != (G.length : Int)) = false := by rw [hFG]; simp
  have HFG := Lib.hid hFG
  clear hP hW hXl hP1 hP2 hW1 hW6 hPW ht hax hFG hln
  have ha0 := ha
  obtain ⟨ap1, an1, ac1, ap2, an2, ac2, ap3, an3, ac3, rfl⟩ := ha.shape
  obtain ⟨_, _, _, hvv, haL, haD, haX⟩ := ha.val
  simp at hvv
  obtain ⟨rfl, rfl, rfl⟩ := hvv
  generalize hW1 : (((w.alloc (.cells #[.int .i64 k, .int .i64 p, .int .i64 n] 24)).alloc (.cells #[.slice ap1 an1 ac1, .slice ap2 an2 ac2, .slice ap3 an3 ac3] 31)).alloc (.cells #[.slice none 0 0, .slice none 0 0, .slice none 0 0] 31)) = w1
  have h1 : Ext w w1 := by rw [← hW1]; exact (by repeat' (first | (with_reducible exact Ext.refl _) | (with_reducible assumption) | (with_reducible apply Ext.alloc) | (with_reducible apply Ext.drew) | (with_reducible apply Ext.drewN) | (refine Ext.setAt ?_ (by omega) _ _) | (refine Ext.trans ?_ (by assumption))))
  have Br : Blk w1 (w.heap.size) 24 [.int .i64 k, .int .i64 p, .int .i64 n] := by rw [← hW1]; exact (((Blk.newB (c := #[_, _, _]) (by simp)).alloc _).alloc _)
  have Ba : Blk w1 (w.heap.size + 1) 31 [.slice ap1 an1 ac1, .slice ap2 an2 ac2, .slice ap3 an3 ac3] := by rw [← hW1]; exact ((Blk.newB (c := #[_, _, _]) (by simp)).alloc _)
  have Bz : Blk w1 (w.heap.size + 2) 31 [.slice none 0 0, .slice none 0 0, .slice none 0 0] := by rw [← hW1]; exact (Blk.newB (c := #[_, _, _]) (by simp))
  have HS1 : Hid (w1.heap.size = w.heap.size + 3) := Lib.hid (by rw [← hW1]; simp)
  have HW := Lib.hid hW1; clear hW1
  go_enter Try.func25, Try.ntmps25
  go_wp2_with fail
  rw [HW.out]
  have ir_0 := Br.cell (j := 0) rfl
  have ir_1 := Br.cell (j := 1) rfl
  have ir_2 := Br.cell (j := 2) rfl
  have ia_0 := Ba.cell (j := 0) rfl
  have ia_1 := Ba.cell (j := 1) rfl
  have ia_2 := Ba.cell (j := 2) rfl
  go_wp2_with fail
  refine (tensorOk_impl k p n _ L D X _ (ha0.ext h1)).mono ?_; rintro e2 w2 ⟨rfl, h2⟩; rw [HY.out]
  have B2r := Br.ext h2
  have B2a := Ba.ext h2
  have B2z := Bz.ext h2
  have j2r_0 := B2r.cell (j := 0) rfl
  have j2r_1 := B2r.cell (j := 1) rfl
  have j2r_2 := B2r.cell (j := 2) rfl
  have j2a_0 := B2a.cell (j := 0) rfl
  have j2a_1 := B2a.cell (j := 1) rfl
  have j2a_2 := B2a.cell (j := 2) rfl
  have l2r := B2r.lt
  have l2a := B2a.lt
  have l2z := B2z.lt
  clear ir_0 ir_1 ir_2 ia_0 ia_1 ia_2
  go_wp2_with fail
  refine (copyTensor_any _ L D X _ (ha0.ext (h1.trans h2)) (by omega) (by omega) hX9).mono ?_; rintro e3 w3 ⟨v3, rfl, o3, h3⟩
  obtain ⟨s1, q1, s2, q2, s3, q3, rfl⟩ : ∃ s1 q1 s2 q2 s3 q3, v3 = .agg #[.slice s1 L.length q1, .slice s2 D.length q2, .slice s3 X.length q3] := by
    obtain ⟨a, b, c, rfl, g1, g2, g3, _⟩ := o3.val
    obtain ⟨x1, y1, rfl, _, _⟩ := g1.ints.val
    obtain ⟨x2, y2, rfl, _, _⟩ := g2.ints.val
    obtain ⟨x3, y3, rfl, _, _⟩ := g3.ints.val
    exact ⟨_, _, _, _, _, _, rfl⟩
  obtain ⟨_, _, _, hvv, oL, oD, oX, d1, d2⟩ := o3.val
  simp at hvv
  obtain ⟨rfl, rfl, rfl⟩ := hvv
  have E23 : Ext w w3 := (h1.trans h2).trans h3
  have hs3 := h3.size
  have hs2 := h2.size
  have hs1 := HS1.out
  have D1 := Lib.hid d1; have D2 := Lib.hid d2; clear d1 d2 o3
  go_wp2_with fail
  generalize hW4 : w3.alloc (.cells #[.slice s1 L.length q1, .slice s2 D.length q2, .slice s3 X.length q3] 31) = w4
  have h4 : Ext w3 w4 := by rw [← hW4]; exact (Ext.refl _).alloc _
  have Bs : Blk w4 w3.heap.size 31 [.slice s1 L.length q1, .slice s2 D.length q2, .slice s3 X.length q3] := by rw [← hW4]; exact Blk.new w3 #[_, _, _] 31
  clear hW4
  have E4 : Ext w w4 := E23.trans h4
  have E14 : Ext w1 w4 := (h2.trans h3).trans h4
  have NL : Hid (∀ q, (Value.slice s1 L.length q1).ownBlock = some q → w2.heap.size ≤ q ∧ q < w3.heap.size) := Lib.hid fun q hq => oL.block_lt hq
  go_loopw [30] (fun i wr => ∃ j : Nat, j ≤ L.length ∧ i = .int .i64 j ∧ Blk wr w3.heap.size 31 [.slice s1 L.length q1, .slice s2 D.length q2, .slice s3 X.length q3] ∧ OwnI wr w2.heap.size (.slice s1 L.length q1) (mixM (renL F G) (fun x => x) L j) ∧ OwnI wr w2.heap.size (.slice s2 D.length q2) D ∧ OwnI wr w2.heap.size (.slice s3 X.length q3) X ∧ Ext w1 wr) (fun i wr => L.length - (RowKit.intOf i).toNat)
  case atStart => exact ⟨0, Nat.zero_le _, rfl, Bs, by rw [mixM_zero, List.map_id']; exact oL.ext h4, oD.ext h4, oX.ext h4, E14⟩
  case round =>
    obtain ⟨j, hj, rfl, Bsr, oLr, oDr, oXr, hE⟩ := hrel
    have qs0 := Bsr.cell (j := 0) rfl
    have lsr := Bsr.lt
    by_cases hlt : j < L.length
    · obtain ⟨bl, cc, hbl, hvv, _, _⟩ := oLr.open (by rw [mixM_length]; omega)
      rw [mixM_length] at hvv
      cases hvv
      obtain ⟨x, hx⟩ : ∃ x, L[j]? = some x := ⟨_, List.getElem?_eq_getElem hlt⟩
      obtain ⟨hcx, hfx⟩ := oLr.cell (mixM_at (f := renL F G) (g := fun x => x) hx)
      have hset := oLr.set j (by rw [mixM_length]; exact hlt) (renL F G x)
      rw [mixM_step hx] at hset
      have hbn : bl ≠ w3.heap.size := by have := (NL.out bl rfl).2; omega
      have hbn2 : w3.heap.size ≠ bl := hbn.symm
      have hll := (oLr.block_lt (k := bl) rfl).2
      have HS := Lib.hid hset; clear hset hx
      go_upto_region 7 with fail
      go_region_held3 (fun w' => w'.cell? ⟨w3.heap.size, 0, none⟩ = some (.slice (some ⟨bl, 0, none⟩) L.length q1))
        (first | (with_reducible assumption) | exact ((Ext.refl _).drew).cell (by with_reducible assumption) | exact ((Ext.refl _).drew).cell (by rw [World.cell?_setCell_far _ _ _ _ (by simp; omega)]; exact qs0))
        (first | (go_at_call 72; (with_reducible refine (renamed_any _ _ F G x wr.drew ((hF.ext (h1.trans hE)).ext ((Ext.refl _).drew)) ((hG.ext (h1.trans hE)).ext ((Ext.refl _).drew)) HFG.out).mono ?_); rintro e5 w5 ⟨rfl, rfl⟩))
      have EL : Ext w1 (wr.setCell ⟨bl, j, none⟩ (.int .i64 (renL F G x))) := hE.setAt (by omega) _ _
      have NE2 : ∀ q, (Value.slice s2 D.length q2).ownBlock = some q → bl ≠ q := fun q hq e => (D1.out bl rfl).1 (by rw [e]; exact hq)
      have NE3 : ∀ q, (Value.slice s3 X.length q3).ownBlock = some q → bl ≠ q := fun q hq e => (D1.out bl rfl).2 (by rw [e]; exact hq)
      have oD5 := oDr.setOther (p := ⟨bl, j, none⟩) NE2 (.int .i64 (renL F G x))
      have oX5 := oXr.setOther (p := ⟨bl, j, none⟩) NE3 (.int .i64 (renL F G x))
      have Bs5 := Bsr.other (p := ⟨bl, j, none⟩) hbn (.int .i64 (renL F G x))
      go_wp2_with fail
      go_roundw
      case rel => exact ⟨j + 1, by omega, by go_num, Bs5.ext (by repeat' (first | (with_reducible exact Ext.refl _) | (with_reducible assumption) | (with_reducible apply Ext.alloc) | (with_reducible apply Ext.drew) | (with_reducible apply Ext.drewN) | (refine Ext.setAt ?_ (by omega) _ _) | (refine Ext.trans ?_ (by assumption)))), HS.out.ext (by repeat' (first | (with_reducible exact Ext.refl _) | (with_reducible assumption) | (with_reducible apply Ext.alloc) | (with_reducible apply Ext.drew) | (with_reducible apply Ext.drewN) | (refine Ext.setAt ?_ (by omega) _ _) | (refine Ext.trans ?_ (by assumption)))), oD5.ext (by repeat' (first | (with_reducible exact Ext.refl _) | (with_reducible assumption) | (with_reducible apply Ext.alloc) | (with_reducible apply Ext.drew) | (with_reducible apply Ext.drewN) | (refine Ext.setAt ?_ (by omega) _ _) | (refine Ext.trans ?_ (by assumption)))), oX5.ext (by repeat' (first | (with_reducible exact Ext.refl _) | (with_reducible assumption) | (with_reducible apply Ext.alloc) | (with_reducible apply Ext.drew) | (with_reducible apply Ext.drewN) | (refine Ext.setAt ?_ (by omega) _ _) | (refine Ext.trans ?_ (by assumption)))), EL.drew⟩
      case measure => simp [RowKit.intOf]; omega
    · have : j = L.length := by omega
      subst this
      rw [mixM_all] at oLr
      have HOL := Lib.hid oLr; clear oLr
      have B5r := Br.ext hE
      have B5z := Bz.ext hE
      have k0 := B5r.cell (j := 0) rfl
      have k1 := B5r.cell (j := 1) rfl
      have k2 := B5r.cell (j := 2) rfl
      have t0 := Bsr.cell (j := 0) rfl
      have t1 := Bsr.cell (j := 1) rfl
      have t2 := Bsr.cell (j := 2) rfl
      have l5 := B5r.lt
      clear qs0
      go_wp2_with fail
      refine (tensorOk_impl k p n _ (L.map (renL F G)) D X _ ⟨_, _, _, rfl, HOL.out.ints, oDr.ints, oXr.ints⟩).mono ?_; rintro e6 w6 ⟨rfl, h6⟩; rw [HZ.out]
      have B6z := B5z.ext h6
      have B6s := Bsr.ext h6
      have f0 := B6z.free 0
      have f1 := B6z.free 1
      have f2 := B6z.free 2
      have z0 := B6z.cell (j := 0) rfl
      have z1 := B6z.cell (j := 1) rfl
      have z2 := B6z.cell (j := 2) rfl
      have y0 := B6s.cell (j := 0) rfl
      have y1 := B6s.cell (j := 1) rfl
      have y2 := B6s.cell (j := 2) rfl
      have l6z := B6z.lt
      have l6s := B6s.lt
      have hlt2 : w.heap.size + 1 + 1 < w2.heap.size := by omega
      go_upto_region 11 with fail
      repeat go_step
      refine bodyPost_ret (v := .tuple #[.agg #[.slice s1 L.length q1, .slice s2 D.length q2, .slice s3 X.length q3], .bool true]) (by simp [results, Try.results25, go_sem, *]) rfl ?_
      refine ⟨_, rfl, ⟨_, _, _, rfl, ?_, ?_, ?_, D1.out, D2.out⟩, ((((h1.trans hE).trans h6).setAt (by omega) _ _).setAt (by omega) _ _).setAt (by omega) _ _⟩
      · exact ((((HOL.out.ext h6).setBelow hlt2 _).setBelow hlt2 _).setBelow hlt2 _).mono (by omega)
      · exact ((((oDr.ext h6).setBelow hlt2 _).setBelow hlt2 _).setBelow hlt2 _).mono (by omega)
      · exact ((((oXr.ext h6).setBelow hlt2 _).setBelow hlt2 _).setBelow hlt2 _).mono (by omega)
end Go.Proofs.Ytabeciopggofkaa
