/- FixLabels of the program. -/
import Derived.Test.YtabeciopggofkaaZBase
import Derived.Test.YtabeciopggofkaaZSliceW
import Derived.Test.YtabeciopggofkaaZSortT
import Derived.Test.YtabeciopggofkaaZJoinA
namespace Go.Proofs.Ytabeciopggofkaa
open Go.RowKit
set_option linter.unusedSimpArgs false
set_option linter.unusedVariables false
section
variable {k p n : Int} (hr : ringOk k p n = true)
/-- 'FixLabels', plain: labels and elements. -/
def fixT (dm : Int → Int) : List Int → List Int → List Int → List (El k p n) → List Int × List (El k p n)
  | l :: ls, v :: vs, L, xs => if hasL L l = true then fixT dm ls vs (cutL L l) (cutXs hr dm L l (fun _ => v) xs) else fixT dm ls vs L xs
  | _, _, L, xs => (L, xs)
/-- All values fit. -/
def fixOk (dm : Int → Int) : List Int → List Int → List Int → Prop
  | l :: ls, v :: vs, L => (hasL L l = true → 0 ≤ v ∧ v < dm l) ∧ fixOk dm ls vs (if hasL L l = true then cutL L l else L)
  | _, _, _ => True
theorem fixT_nil (dm : Int → Int) (V L : List Int) (xs : List (El k p n)) : fixT hr dm [] V L xs = (L, xs) := by cases V <;> rfl
set_option maxRecDepth 100000 in
set_option maxHeartbeats 8000000 in
theorem fixLabels_any {dm : Int → Int} {U L : List Int} {xs : List (El k p n)} (ht : IsT k p n dm U L xs) (F V : List Int) (hFV : F.length = V.length) (hok : fixOk dm F V L) (va vF vV : Value) (w : World) (ha : TenS w va L (L.map dm) (flat xs)) (hF : IntS w vF F) (hV : IntS w vV V) :
    Calls Try.prog 40 #[ringV k p n, va, vF, vV] w fun e w' => ∃ u, e = .returned (.tuple #[u, .bool true]) ∧ OwnT w' w.heap.size u (fixT hr dm F V L xs).1 ((fixT hr dm F V L xs).1.map dm) (flat (fixT hr dm F V L xs).2) ∧ Ext w w' := by
  obtain ⟨aF, cF, rfl, _, _⟩ := hF.val
  obtain ⟨aV, cV, rfl, _, _⟩ := hV.val
  have HT := Lib.hid ht; clear ht
  have HYA := Lib.hid (HT.out.yes hr)
  have HR := Lib.hid hr
  have hrk : L.length ≤ 12 := HT.out.ax.rank
  have hX9 : (flat xs).length ≤ 1048576 := by obtain ⟨P, W, hP, hW, hP1, hP2, hW1', hW6, hXl⟩ := (HT.out.ok hr).nat hr; have : P * W ≤ 4096 * 6 := Nat.mul_le_mul hP2 hW6; omega
  obtain ⟨RES, hRES⟩ : ∃ RES, fixT hr dm F V L xs = RES := ⟨_, rfl⟩
  rw [hRES]
  have HFix : Hid (fixT hr dm F V L xs = RES ∧ fixOk dm F V L) := Lib.hid ⟨hRES, hok⟩
  clear hRES hok
  have hne : ((F.length : Int) != (V.length : Int)) = false := by rw [hFV]; simp
  have HFV := Lib.hid hFV; clear hFV
  have ha0 := ha
  obtain ⟨ap1, an1, ac1, ap2, an2, ac2, ap3, an3, ac3, rfl⟩ := ha.shape
  obtain ⟨_, _, _, hvv, haL, haD, haX⟩ := ha.val
  simp at hvv
  obtain ⟨rfl, rfl, rfl⟩ := hvv
  generalize hW1 : (((w.alloc (.cells #[.int .i64 k, .int .i64 p, .int .i64 n] 24)).alloc (.cells #[.slice ap1 an1 ac1, .slice ap2 an2 ac2, .slice ap3 an3 ac3] 31)).alloc (.cells #[.slice none 0 0, .slice none 0 0, .slice none 0 0] 31)) = w1
  have h1 : Ext w w1 := by rw [← hW1]; exact (by repeat' (first | (with_reducible exact Ext.refl _) | (with_reducible assumption) | (with_reducible apply Ext.alloc) | (with_reducible apply Ext.drew) | (with_reducible apply Ext.drewN) | (refine Ext.setAt ?_ (by omega) _ _) | (refine Ext.trans ?_ (by assumption))))
  have Br : Blk w1 (w.heap.size) 24 [.int .i64 k, .int .i64 p, .int .i64 n] := by rw [← hW1]; exact (((Blk.newB (c := #[_, _, _]) (by simp)).alloc _).alloc _)
  have Ba : Blk w1 (w.heap.size + 1) 31 [.slice ap1 an1 ac1, .slice ap2 an2 ac2, .slice ap3 an3 ac3] := by rw [← hW1]; exact ((Blk.newB (c := #[_, _, _]) (by simp)).alloc _)
  have Bz : Blk w1 (w.heap.size + 2) 31 [.slice none 0 0, .slice none 0 0, .slice none 0 0] := by rw [← hW1]; exact (Blk.newB (c := #[_, _, _]) (by simp))
  have HS1 : Hid (w1.heap.size = w.heap.size + 3) := Lib.hid (by rw [← hW1]; simp)
  have HW := Lib.hid hW1; clear hW1
  go_enter Try.func40, Try.ntmps40
  go_wp2_with fail
  rw [HW.out]
  have Kr := Br
  have Ka := Ba
  have Kz := Bz
  have Br1 := Br
  clear Br
  have ir0_1 := Br1.cell (j := 0) rfl
  have ir1_1 := Br1.cell (j := 1) rfl
  have ir2_1 := Br1.cell (j := 2) rfl
  have lr_1 := Br1.lt
  have Ba1 := Ba
  clear Ba
  have ia0_1 := Ba1.cell (j := 0) rfl
  have ia1_1 := Ba1.cell (j := 1) rfl
  have ia2_1 := Ba1.cell (j := 2) rfl
  have la_1 := Ba1.lt
  have Bz1 := Bz
  clear Bz
  have iz0_1 := Bz1.cell (j := 0) rfl
  have iz1_1 := Bz1.cell (j := 1) rfl
  have iz2_1 := Bz1.cell (j := 2) rfl
  have lz_1 := Bz1.lt
  go_wp2_with fail
  refine (tensorOk_impl k p n _ L _ _ _ (ha0.ext h1)).mono ?_; rintro e2 w2 ⟨rfl, h2⟩
  rw [HYA.out]
  clear ir0_1 ir1_1 ir2_1 lr_1 ia0_1 ia1_1 ia2_1 la_1 iz0_1 iz1_1 iz2_1 lz_1
  have Br2 := (Br1.ext h2)
  clear Br1
  have ir0_2 := Br2.cell (j := 0) rfl
  have ir1_2 := Br2.cell (j := 1) rfl
  have ir2_2 := Br2.cell (j := 2) rfl
  have lr_2 := Br2.lt
  have Ba2 := (Ba1.ext h2)
  clear Ba1
  have ia0_2 := Ba2.cell (j := 0) rfl
  have ia1_2 := Ba2.cell (j := 1) rfl
  have ia2_2 := Ba2.cell (j := 2) rfl
  have la_2 := Ba2.lt
  have Bz2 := (Bz1.ext h2)
  clear Bz1
  have iz0_2 := Bz2.cell (j := 0) rfl
  have iz1_2 := Bz2.cell (j := 1) rfl
  have iz2_2 := Bz2.cell (j := 2) rfl
  have lz_2 := Bz2.lt
  go_wp2_with fail
  refine (copyTensor_any _ L (L.map dm) (flat xs) _ (ha0.ext (h1.trans h2)) (by omega) (by simp; omega) hX9).mono ?_; rintro e3 w3 ⟨vs, rfl, os, h3⟩
  obtain ⟨sp1, sn1, sc1, sp2, sn2, sc2, sp3, sn3, sc3, rfl⟩ := os.shape
  clear ir0_2 ir1_2 ir2_2 lr_2 ia0_2 ia1_2 ia2_2 la_2 iz0_2 iz1_2 iz2_2 lz_2
  have Br3 := (Br2.ext h3)
  clear Br2
  have ir0_3 := Br3.cell (j := 0) rfl
  have ir1_3 := Br3.cell (j := 1) rfl
  have ir2_3 := Br3.cell (j := 2) rfl
  have lr_3 := Br3.lt
  have Ba3 := (Ba2.ext h3)
  clear Ba2
  have ia0_3 := Ba3.cell (j := 0) rfl
  have ia1_3 := Ba3.cell (j := 1) rfl
  have ia2_3 := Ba3.cell (j := 2) rfl
  have la_3 := Ba3.lt
  have Bz3 := (Bz2.ext h3)
  clear Bz2
  have iz0_3 := Bz3.cell (j := 0) rfl
  have iz1_3 := Bz3.cell (j := 1) rfl
  have iz2_3 := Bz3.cell (j := 2) rfl
  have lz_3 := Bz3.lt
  go_wp2_with fail
  generalize hG4 : w3.alloc (.cells #[.slice sp1 sn1 sc1, .slice sp2 sn2 sc2, .slice sp3 sn3 sc3] 31) = w4
  have h4 : Ext w3 w4 := by rw [← hG4]; exact (Ext.refl _).alloc _
  have Bs4 : Blk w4 w3.heap.size 31 [.slice sp1 sn1 sc1, .slice sp2 sn2 sc2, .slice sp3 sn3 sc3] := by rw [← hG4]; exact Blk.new w3 #[.slice sp1 sn1 sc1, .slice sp2 sn2 sc2, .slice sp3 sn3 sc3] 31
  have hsz4 : w4.heap.size = w3.heap.size + 1 := by rw [← hG4]; simp
  have HSZ4 := Lib.hid hsz4; clear hsz4
  clear hG4
  clear ir0_3 ir1_3 ir2_3 lr_3 ia0_3 ia1_3 ia2_3 la_3 iz0_3 iz1_3 iz2_3 lz_3
  have Br4 := (Br3.ext h4)
  clear Br3
  have ir0_4 := Br4.cell (j := 0) rfl
  have ir1_4 := Br4.cell (j := 1) rfl
  have ir2_4 := Br4.cell (j := 2) rfl
  have lr_4 := Br4.lt
  have Ba4 := (Ba3.ext h4)
  clear Ba3
  have ia0_4 := Ba4.cell (j := 0) rfl
  have ia1_4 := Ba4.cell (j := 1) rfl
  have ia2_4 := Ba4.cell (j := 2) rfl
  have la_4 := Ba4.lt
  have Bz4 := (Bz3.ext h4)
  clear Bz3
  have iz0_4 := Bz4.cell (j := 0) rfl
  have iz1_4 := Bz4.cell (j := 1) rfl
  have iz2_4 := Bz4.cell (j := 2) rfl
  have lz_4 := Bz4.lt
  have Bs4 := Bs4
  have is0_4 := Bs4.cell (j := 0) rfl
  have is1_4 := Bs4.cell (j := 1) rfl
  have is2_4 := Bs4.cell (j := 2) rfl
  have ls_4 := Bs4.lt
  have hs4 := (h2.trans (h3.trans h4)).size
  have oS4 := (os.mono (B' := w1.heap.size) h2.size).ext h4
  go_loopw [31] (fun i wr => ∃ (j : Nat) (M : List Int) (ys : List (El k p n)) (yp1 : Option Addr) (yn1 yc1 : Nat) (yp2 : Option Addr) (yn2 yc2 : Nat) (yp3 : Option Addr) (yn3 yc3 : Nat), j ≤ F.length ∧ i = .int .i64 j ∧ Hid (fixT hr dm (F.drop j) (V.drop j) M ys = RES ∧ fixOk dm (F.drop j) (V.drop j) M) ∧ Hid (IsT k p n dm U M ys) ∧ Blk wr w3.heap.size 31 [.slice yp1 yn1 yc1, .slice yp2 yn2 yc2, .slice yp3 yn3 yc3] ∧ OwnT wr w1.heap.size (.agg #[.slice yp1 yn1 yc1, .slice yp2 yn2 yc2, .slice yp3 yn3 yc3]) M (M.map dm) (flat ys) ∧ Ext w1 wr ∧ w4.heap.size ≤ wr.heap.size) (fun i wr => F.length - (RowKit.intOf i).toNat)
  case atStart => exact ⟨0, L, xs, _, _, _, _, _, _, _, _, _, Nat.zero_le _, rfl, Lib.hid (by rw [List.drop_zero, List.drop_zero]; exact HFix.out), HT, Bs4, oS4, (h2.trans (h3.trans h4)), Nat.le_refl _⟩
  case round =>
    obtain ⟨w9, rfl⟩ : ∃ q, q = wr := ⟨wr, rfl⟩
    obtain ⟨j, M, ys, yp1, yn1, yc1, yp2, yn2, yc2, yp3, yn3, yc3, hj, rfl, hX, hT, Bs9, oS9, h9, hsz9⟩ := hrel
    clear oS4 os ir0_4 ir1_4 ir2_4 lr_4 ia0_4 ia1_4 ia2_4 la_4 iz0_4 iz1_4 iz2_4 lz_4 is0_4 is1_4 is2_4 ls_4
    have Q9 := h9.size
    have Brx := Kr.ext h9
    have Bax := Ka.ext h9
    have Bzx := Kz.ext h9
    have Br9 := Brx
    clear Brx
    have ir0_9 := Br9.cell (j := 0) rfl
    have ir1_9 := Br9.cell (j := 1) rfl
    have ir2_9 := Br9.cell (j := 2) rfl
    have lr_9 := Br9.lt
    have Ba9 := Bax
    clear Bax
    have ia0_9 := Ba9.cell (j := 0) rfl
    have ia1_9 := Ba9.cell (j := 1) rfl
    have ia2_9 := Ba9.cell (j := 2) rfl
    have la_9 := Ba9.lt
    have Bz9 := Bzx
    clear Bzx
    have iz0_9 := Bz9.cell (j := 0) rfl
    have iz1_9 := Bz9.cell (j := 1) rfl
    have iz2_9 := Bz9.cell (j := 2) rfl
    have lz_9 := Bz9.lt
    have Bs9 := Bs9
    have is0_9 := Bs9.cell (j := 0) rfl
    have is1_9 := Bs9.cell (j := 1) rfl
    have is2_9 := Bs9.cell (j := 2) rfl
    have ls_9 := Bs9.lt
    by_cases hlt : j < F.length
    · skip
      obtain ⟨bf, ff, f, hff, hcf, hf, hdf⟩ := (hF.ext (h1.trans h9)).get hlt
      cases hff
      obtain ⟨bv, fv, v, hvv, hcv, hv, hdv⟩ := (hV.ext (h1.trans h9)).get (i := j) (by have := HFV.out; omega)
      cases hvv
      have hx := hX.out
      rw [hdf, hdv, fixT, fixOk] at hx
      have HX := Lib.hid hx; clear hx hf hv hdf hdv
      have hjV : j < V.length := by have := HFV.out; omega
      have ot9 := oS9.tens
      go_wp2_with fail
      by_cases hm : f ∈ M
      have hw1s : w1.heap.size ≤ w3.heap.size := by have := (h2.trans h3).size; omega
      · skip
        have HM := Lib.hid hm
        obtain ⟨q0, hq0, _⟩ := map_get_find (dm := dm) hm
        have HQ := Lib.hid hq0; clear hq0
        have hHas := (hasL_iff M f).2 hm
        have hx := HX.out; rw [if_pos hHas, if_pos hHas] at hx
        obtain ⟨hx1, hx2, hx3⟩ := hx
        obtain ⟨v0, v1⟩ := hx2 hHas
        have HX2 := Lib.hid (And.intro hx1 hx3); clear hx1 hx2 hx3 hHas hm
        refine (axisOf_any _ M _ _ f _ ot9).mono ?_; rintro e10 w10 ⟨rfl, h10⟩
        rw [HQ.out]
        clear ir0_9 ir1_9 ir2_9 lr_9 ia0_9 ia1_9 ia2_9 la_9 iz0_9 iz1_9 iz2_9 lz_9 is0_9 is1_9 is2_9 ls_9
        have Br10 := (Br9.ext h10)
        clear Br9
        have ir0_10 := Br10.cell (j := 0) rfl
        have ir1_10 := Br10.cell (j := 1) rfl
        have ir2_10 := Br10.cell (j := 2) rfl
        have lr_10 := Br10.lt
        have Ba10 := (Ba9.ext h10)
        clear Ba9
        have ia0_10 := Ba10.cell (j := 0) rfl
        have ia1_10 := Ba10.cell (j := 1) rfl
        have ia2_10 := Ba10.cell (j := 2) rfl
        have la_10 := Ba10.lt
        have Bz10 := (Bz9.ext h10)
        clear Bz9
        have iz0_10 := Bz10.cell (j := 0) rfl
        have iz1_10 := Bz10.cell (j := 1) rfl
        have iz2_10 := Bz10.cell (j := 2) rfl
        have lz_10 := Bz10.lt
        have Bs10 := (Bs9.ext h10)
        clear Bs9
        have is0_10 := Bs10.cell (j := 0) rfl
        have is1_10 := Bs10.cell (j := 1) rfl
        have is2_10 := Bs10.cell (j := 2) rfl
        have ls_10 := Bs10.lt
        have hcvx := (h10).cell hcv
        have hbvx : bv < w10.heap.size := World.block_lt_of_cell? _ _ hcvx
        go_wp2_with fail
        have hn0_0_0 : w.heap.size ≠ w10.heap.size := (by omega)
        have hn0_0_1 : w3.heap.size ≠ w10.heap.size := (by omega)
        have hn0_0_2 : bv ≠ w10.heap.size := (by omega)
        go_upto_region 8 with fail
        go_cut [13, 14] from 40 to 50 (fun q ok wx => ∃ bu nxp1 nxn1 nxc1 nxp2 nxn2 nxc2 nxp3 nxn3 nxc3, q = .pointer (some ⟨bu, 0, none⟩) ∧ ok = .bool true ∧ Blk wx bu 31 [.slice nxp1 nxn1 nxc1, .slice nxp2 nxn2 nxc2, .slice nxp3 nxn3 nxc3] ∧ Ext w10 wx ∧ OwnT wx w10.heap.size (.agg #[.slice nxp1 nxn1 nxc1, .slice nxp2 nxn2 nxc2, .slice nxp3 nxn3 nxc3]) (cutL M f) ((cutL M f).map dm) (flat (cutXs hr dm M f (fun _ => v) ys)))
        case first =>
          as_aux_lemma =>
            refine wp_region_held_drew (S := fun w' => w'.cell? ⟨w.heap.size, 0, none⟩ = some (.int .i64 k) ∧ w'.cell? ⟨w.heap.size, 1, none⟩ = some (.int .i64 p) ∧ w'.cell? ⟨w.heap.size, 2, none⟩ = some (.int .i64 n) ∧ w'.cell? ⟨w3.heap.size, 0, none⟩ = some (.slice yp1 yn1 yc1) ∧ w'.cell? ⟨w3.heap.size, 1, none⟩ = some (.slice yp2 yn2 yc2) ∧ w'.cell? ⟨w3.heap.size, 2, none⟩ = some (.slice yp3 yn3 yc3) ∧ w'.cell? ⟨bv, fv + j, none⟩ = some (.int .i64 v)) (by kernel_rfl) ?_ (fun hHeld => ?_)
            · (first | (with_reducible exact ⟨((Ext.refl w10).drew).cell ir0_10, ((Ext.refl w10).drew).cell ir1_10, ((Ext.refl w10).drew).cell ir2_10, ((Ext.refl w10).drew).cell is0_10, ((Ext.refl w10).drew).cell is1_10, ((Ext.refl w10).drew).cell is2_10, ((Ext.refl w10).drew).cell hcvx⟩) | (with_reducible exact ⟨(((Ext.refl w10).alloc _).drew).cell ir0_10, (((Ext.refl w10).alloc _).drew).cell ir1_10, (((Ext.refl w10).alloc _).drew).cell ir2_10, (((Ext.refl w10).alloc _).drew).cell is0_10, (((Ext.refl w10).alloc _).drew).cell is1_10, (((Ext.refl w10).alloc _).drew).cell is2_10, (((Ext.refl w10).alloc _).drew).cell hcvx⟩) | (with_reducible exact ⟨xnx1_0, xnx1_1, xnx1_2, xnx1_3, xnx1_4, xnx1_5, xnx1_6⟩) | (with_reducible exact ⟨((Ext.refl wnx1).alloc _).cell xnx1_0, ((Ext.refl wnx1).alloc _).cell xnx1_1, ((Ext.refl wnx1).alloc _).cell xnx1_2, ((Ext.refl wnx1).alloc _).cell xnx1_3, ((Ext.refl wnx1).alloc _).cell xnx1_4, ((Ext.refl wnx1).alloc _).cell xnx1_5, ((Ext.refl wnx1).alloc _).cell xnx1_6⟩) | (with_reducible exact ⟨grown_cell (b := w10.heap.size) (grown_setCell (grown_setCell (grown_setCell (grown_refl _ _) _ _) _ _) _ _) hn0_0_0 xnx1_0, grown_cell (b := w10.heap.size) (grown_setCell (grown_setCell (grown_setCell (grown_refl _ _) _ _) _ _) _ _) hn0_0_0 xnx1_1, grown_cell (b := w10.heap.size) (grown_setCell (grown_setCell (grown_setCell (grown_refl _ _) _ _) _ _) _ _) hn0_0_0 xnx1_2, grown_cell (b := w10.heap.size) (grown_setCell (grown_setCell (grown_setCell (grown_refl _ _) _ _) _ _) _ _) hn0_0_1 xnx1_3, grown_cell (b := w10.heap.size) (grown_setCell (grown_setCell (grown_setCell (grown_refl _ _) _ _) _ _) _ _) hn0_0_1 xnx1_4, grown_cell (b := w10.heap.size) (grown_setCell (grown_setCell (grown_setCell (grown_refl _ _) _ _) _ _) _ _) hn0_0_1 xnx1_5, grown_cell (b := w10.heap.size) (grown_setCell (grown_setCell (grown_setCell (grown_refl _ _) _ _) _ _) _ _) hn0_0_2 xnx1_6⟩))
            refine wpAnyH_take (i := 0) (v := ?_) rfl (by kernel_rfl) (by kernel_rfl) (by kernel_rfl) (fun _ _ _ h => h) (Or.inl ⟨by rfl, ?_⟩) (by assumption) ?_
            rotate_left
            · intro w hSw; (try dsimp only at hSw); go_simp; (try with_reducible rfl)
            (try go_simp)
            refine wpAnyH_take (i := 1) (v := ?_) rfl (by kernel_rfl) (by kernel_rfl) (by kernel_rfl) (fun _ _ _ h => h) (Or.inl ⟨by rfl, ?_⟩) (by assumption) ?_
            rotate_left
            · intro w hSw; (try dsimp only at hSw); go_simp; (try with_reducible rfl)
            (try go_simp)
            refine wpAnyH_take (i := 2) (v := ?_) rfl (by kernel_rfl) (by kernel_rfl) (by kernel_rfl) (fun _ _ _ h => h) (Or.inl ⟨by rfl, ?_⟩) (by assumption) ?_
            rotate_left
            · intro w hSw; (try dsimp only at hSw); go_simp; (try with_reducible rfl)
            (try go_simp)
            refine wpAnyH_take (i := 3) (v := ?_) rfl (by kernel_rfl) (by kernel_rfl) (by kernel_rfl) (fun _ _ _ h => h) (Or.inl ⟨by rfl, ?_⟩) (by assumption) ?_
            rotate_left
            · intro w hSw; (try dsimp only at hSw); go_simp; (try with_reducible rfl)
            (try go_simp)
            refine wpAnyH_take (i := 4) (v := ?_) rfl (by kernel_rfl) (by kernel_rfl) (by kernel_rfl) (fun _ _ _ h => h) (Or.inl ⟨by rfl, ?_⟩) (by assumption) ?_
            rotate_left
            · intro w hSw; (try dsimp only at hSw); go_simp; (try with_reducible rfl)
            (try go_simp)
            refine wpAnyH_take (i := 5) (v := ?_) rfl (by kernel_rfl) (by kernel_rfl) (by kernel_rfl) (fun _ _ _ h => h) (Or.inl ⟨by rfl, ?_⟩) (by assumption) ?_
            rotate_left
            · intro w hSw; (try dsimp only at hSw); go_simp; (try with_reducible rfl)
            (try go_simp)
            refine wpAnyH_take (i := 6) (v := ?_) rfl (by kernel_rfl) (by kernel_rfl) (by kernel_rfl) (fun _ _ _ h => h) (Or.inl ⟨by rfl, ?_⟩) (by assumption) ?_
            rotate_left
            · intro w hSw; (try dsimp only at hSw); go_simp; (try with_reducible rfl)
            (try go_simp)
            refine wpAnyH_ready (rs := [7, 11]) (by kernel_rfl) (by simp) ?_
            refine AllReadyH.cons rfl (fun Kc hKc => ?_) ?_
            · skip
              go_simp; go_at_call 38
              have Eq0 : Ext w10 w10.drew := ((Ext.refl w10).drew); (with_reducible refine (sliceTensor_any HR.out hT.out f v HM.out v0 v1 _ w10.drew ((ot9.ext h10).ext Eq0)).mono ?_); rintro enx1 wnx1 ⟨v9, rfl, onx, hnx1⟩; have Enx1 : Ext w10 wnx1 := Eq0.trans hnx1; have xnx1_0 := Enx1.cell ir0_10; have xnx1_1 := Enx1.cell ir1_10; have xnx1_2 := Enx1.cell ir2_10; have xnx1_3 := Enx1.cell is0_10; have xnx1_4 := Enx1.cell is1_10; have xnx1_5 := Enx1.cell is2_10; have xnx1_6 := Enx1.cell hcvx; have hnx1zs := Enx1.size; obtain ⟨nxp1, nxn1, nxc1, nxp2, nxn2, nxc2, nxp3, nxn3, nxc3, rfl⟩ := onx.shape; have o4m := onx.mono (B' := w10.heap.size) Eq0.size; have hn1_0_0 : w.heap.size ≠ wnx1.heap.size := (by omega); have hn1_0_1 : w3.heap.size ≠ wnx1.heap.size := (by omega); have hn1_0_2 : bv ≠ wnx1.heap.size := (by omega)
              (try go_simp)
              refine hKc.out _ _ ?_ (fun hHeld => ?_) <;> clear hKc Kc
              · (first | (with_reducible exact ⟨((Ext.refl w10).drew).cell ir0_10, ((Ext.refl w10).drew).cell ir1_10, ((Ext.refl w10).drew).cell ir2_10, ((Ext.refl w10).drew).cell is0_10, ((Ext.refl w10).drew).cell is1_10, ((Ext.refl w10).drew).cell is2_10, ((Ext.refl w10).drew).cell hcvx⟩) | (with_reducible exact ⟨(((Ext.refl w10).alloc _).drew).cell ir0_10, (((Ext.refl w10).alloc _).drew).cell ir1_10, (((Ext.refl w10).alloc _).drew).cell ir2_10, (((Ext.refl w10).alloc _).drew).cell is0_10, (((Ext.refl w10).alloc _).drew).cell is1_10, (((Ext.refl w10).alloc _).drew).cell is2_10, (((Ext.refl w10).alloc _).drew).cell hcvx⟩) | (with_reducible exact ⟨xnx1_0, xnx1_1, xnx1_2, xnx1_3, xnx1_4, xnx1_5, xnx1_6⟩) | (with_reducible exact ⟨((Ext.refl wnx1).alloc _).cell xnx1_0, ((Ext.refl wnx1).alloc _).cell xnx1_1, ((Ext.refl wnx1).alloc _).cell xnx1_2, ((Ext.refl wnx1).alloc _).cell xnx1_3, ((Ext.refl wnx1).alloc _).cell xnx1_4, ((Ext.refl wnx1).alloc _).cell xnx1_5, ((Ext.refl wnx1).alloc _).cell xnx1_6⟩) | (with_reducible exact ⟨grown_cell (b := w10.heap.size) (grown_setCell (grown_setCell (grown_setCell (grown_refl _ _) _ _) _ _) _ _) hn0_0_0 xnx1_0, grown_cell (b := w10.heap.size) (grown_setCell (grown_setCell (grown_setCell (grown_refl _ _) _ _) _ _) _ _) hn0_0_0 xnx1_1, grown_cell (b := w10.heap.size) (grown_setCell (grown_setCell (grown_setCell (grown_refl _ _) _ _) _ _) _ _) hn0_0_0 xnx1_2, grown_cell (b := w10.heap.size) (grown_setCell (grown_setCell (grown_setCell (grown_refl _ _) _ _) _ _) _ _) hn0_0_1 xnx1_3, grown_cell (b := w10.heap.size) (grown_setCell (grown_setCell (grown_setCell (grown_refl _ _) _ _) _ _) _ _) hn0_0_1 xnx1_4, grown_cell (b := w10.heap.size) (grown_setCell (grown_setCell (grown_setCell (grown_refl _ _) _ _) _ _) _ _) hn0_0_1 xnx1_5, grown_cell (b := w10.heap.size) (grown_setCell (grown_setCell (grown_setCell (grown_refl _ _) _ _) _ _) _ _) hn0_0_2 xnx1_6⟩))
              refine wpAnyH_take (i := 8) (v := ?_) rfl (by kernel_rfl) (by kernel_rfl) (by kernel_rfl) (fun _ _ _ h => h) (Or.inl ⟨by rfl, ?_⟩) (by assumption) ?_
              rotate_left
              · intro w hSw; (try dsimp only at hSw); go_simp; (try with_reducible rfl)
              (try go_simp)
              refine wpAnyH_take (i := 9) (v := ?_) rfl (by kernel_rfl) (by kernel_rfl) (by kernel_rfl) (fun _ _ _ h => h) (Or.inl ⟨by rfl, ?_⟩) (by assumption) ?_
              rotate_left
              · intro w hSw; (try dsimp only at hSw); go_simp; (try with_reducible rfl)
              (try go_simp)
              refine wpAnyH_take (i := 10) (v := ?_) rfl (by kernel_rfl) (by kernel_rfl) (by kernel_rfl) (fun _ _ _ h => h) (Or.inl ⟨by rfl, ?_⟩) (by assumption) ?_
              rotate_left
              · intro w hSw; (try dsimp only at hSw); go_simp; (try with_reducible rfl)
              (try go_simp)
              refine wpAnyH_ready (rs := [11]) (by kernel_rfl) (by simp) ?_
              refine AllReadyH.cons rfl (fun Kc hKc => ?_) AllReadyH.nil
              go_simp
              refine hKc.out _ _ ?_ (fun hHeld => ?_) <;> clear hKc Kc
              · (first | (with_reducible exact ⟨((Ext.refl w10).drew).cell ir0_10, ((Ext.refl w10).drew).cell ir1_10, ((Ext.refl w10).drew).cell ir2_10, ((Ext.refl w10).drew).cell is0_10, ((Ext.refl w10).drew).cell is1_10, ((Ext.refl w10).drew).cell is2_10, ((Ext.refl w10).drew).cell hcvx⟩) | (with_reducible exact ⟨(((Ext.refl w10).alloc _).drew).cell ir0_10, (((Ext.refl w10).alloc _).drew).cell ir1_10, (((Ext.refl w10).alloc _).drew).cell ir2_10, (((Ext.refl w10).alloc _).drew).cell is0_10, (((Ext.refl w10).alloc _).drew).cell is1_10, (((Ext.refl w10).alloc _).drew).cell is2_10, (((Ext.refl w10).alloc _).drew).cell hcvx⟩) | (with_reducible exact ⟨xnx1_0, xnx1_1, xnx1_2, xnx1_3, xnx1_4, xnx1_5, xnx1_6⟩) | (with_reducible exact ⟨((Ext.refl wnx1).alloc _).cell xnx1_0, ((Ext.refl wnx1).alloc _).cell xnx1_1, ((Ext.refl wnx1).alloc _).cell xnx1_2, ((Ext.refl wnx1).alloc _).cell xnx1_3, ((Ext.refl wnx1).alloc _).cell xnx1_4, ((Ext.refl wnx1).alloc _).cell xnx1_5, ((Ext.refl wnx1).alloc _).cell xnx1_6⟩) | (with_reducible exact ⟨grown_cell (b := w10.heap.size) (grown_setCell (grown_setCell (grown_setCell (grown_refl _ _) _ _) _ _) _ _) hn0_0_0 xnx1_0, grown_cell (b := w10.heap.size) (grown_setCell (grown_setCell (grown_setCell (grown_refl _ _) _ _) _ _) _ _) hn0_0_0 xnx1_1, grown_cell (b := w10.heap.size) (grown_setCell (grown_setCell (grown_setCell (grown_refl _ _) _ _) _ _) _ _) hn0_0_0 xnx1_2, grown_cell (b := w10.heap.size) (grown_setCell (grown_setCell (grown_setCell (grown_refl _ _) _ _) _ _) _ _) hn0_0_1 xnx1_3, grown_cell (b := w10.heap.size) (grown_setCell (grown_setCell (grown_setCell (grown_refl _ _) _ _) _ _) _ _) hn0_0_1 xnx1_4, grown_cell (b := w10.heap.size) (grown_setCell (grown_setCell (grown_setCell (grown_refl _ _) _ _) _ _) _ _) hn0_0_1 xnx1_5, grown_cell (b := w10.heap.size) (grown_setCell (grown_setCell (grown_setCell (grown_refl _ _) _ _) _ _) _ _) hn0_0_2 xnx1_6⟩))
              refine wpAnyH_ready (rs := [12]) (by kernel_rfl) (by simp) ?_
              refine AllReadyH.cons rfl (fun Kc hKc => ?_) AllReadyH.nil
              go_simp
              refine hKc.out _ _ ?_ (fun hHeld => ?_) <;> clear hKc Kc
              · (first | (with_reducible exact ⟨((Ext.refl w10).drew).cell ir0_10, ((Ext.refl w10).drew).cell ir1_10, ((Ext.refl w10).drew).cell ir2_10, ((Ext.refl w10).drew).cell is0_10, ((Ext.refl w10).drew).cell is1_10, ((Ext.refl w10).drew).cell is2_10, ((Ext.refl w10).drew).cell hcvx⟩) | (with_reducible exact ⟨(((Ext.refl w10).alloc _).drew).cell ir0_10, (((Ext.refl w10).alloc _).drew).cell ir1_10, (((Ext.refl w10).alloc _).drew).cell ir2_10, (((Ext.refl w10).alloc _).drew).cell is0_10, (((Ext.refl w10).alloc _).drew).cell is1_10, (((Ext.refl w10).alloc _).drew).cell is2_10, (((Ext.refl w10).alloc _).drew).cell hcvx⟩) | (with_reducible exact ⟨xnx1_0, xnx1_1, xnx1_2, xnx1_3, xnx1_4, xnx1_5, xnx1_6⟩) | (with_reducible exact ⟨((Ext.refl wnx1).alloc _).cell xnx1_0, ((Ext.refl wnx1).alloc _).cell xnx1_1, ((Ext.refl wnx1).alloc _).cell xnx1_2, ((Ext.refl wnx1).alloc _).cell xnx1_3, ((Ext.refl wnx1).alloc _).cell xnx1_4, ((Ext.refl wnx1).alloc _).cell xnx1_5, ((Ext.refl wnx1).alloc _).cell xnx1_6⟩) | (with_reducible exact ⟨grown_cell (b := w10.heap.size) (grown_setCell (grown_setCell (grown_setCell (grown_refl _ _) _ _) _ _) _ _) hn0_0_0 xnx1_0, grown_cell (b := w10.heap.size) (grown_setCell (grown_setCell (grown_setCell (grown_refl _ _) _ _) _ _) _ _) hn0_0_0 xnx1_1, grown_cell (b := w10.heap.size) (grown_setCell (grown_setCell (grown_setCell (grown_refl _ _) _ _) _ _) _ _) hn0_0_0 xnx1_2, grown_cell (b := w10.heap.size) (grown_setCell (grown_setCell (grown_setCell (grown_refl _ _) _ _) _ _) _ _) hn0_0_1 xnx1_3, grown_cell (b := w10.heap.size) (grown_setCell (grown_setCell (grown_setCell (grown_refl _ _) _ _) _ _) _ _) hn0_0_1 xnx1_4, grown_cell (b := w10.heap.size) (grown_setCell (grown_setCell (grown_setCell (grown_refl _ _) _ _) _ _) _ _) hn0_0_1 xnx1_5, grown_cell (b := w10.heap.size) (grown_setCell (grown_setCell (grown_setCell (grown_refl _ _) _ _) _ _) _ _) hn0_0_2 xnx1_6⟩))
              refine wpAnyH_ready (rs := [13]) (by kernel_rfl) (by simp) ?_
              refine AllReadyH.cons rfl (fun Kc hKc => ?_) AllReadyH.nil
              go_simp
              refine hKc.out _ _ ?_ (fun hHeld => ?_) <;> clear hKc Kc
              · (first | (with_reducible exact ⟨((Ext.refl w10).drew).cell ir0_10, ((Ext.refl w10).drew).cell ir1_10, ((Ext.refl w10).drew).cell ir2_10, ((Ext.refl w10).drew).cell is0_10, ((Ext.refl w10).drew).cell is1_10, ((Ext.refl w10).drew).cell is2_10, ((Ext.refl w10).drew).cell hcvx⟩) | (with_reducible exact ⟨(((Ext.refl w10).alloc _).drew).cell ir0_10, (((Ext.refl w10).alloc _).drew).cell ir1_10, (((Ext.refl w10).alloc _).drew).cell ir2_10, (((Ext.refl w10).alloc _).drew).cell is0_10, (((Ext.refl w10).alloc _).drew).cell is1_10, (((Ext.refl w10).alloc _).drew).cell is2_10, (((Ext.refl w10).alloc _).drew).cell hcvx⟩) | (with_reducible exact ⟨xnx1_0, xnx1_1, xnx1_2, xnx1_3, xnx1_4, xnx1_5, xnx1_6⟩) | (with_reducible exact ⟨((Ext.refl wnx1).alloc _).cell xnx1_0, ((Ext.refl wnx1).alloc _).cell xnx1_1, ((Ext.refl wnx1).alloc _).cell xnx1_2, ((Ext.refl wnx1).alloc _).cell xnx1_3, ((Ext.refl wnx1).alloc _).cell xnx1_4, ((Ext.refl wnx1).alloc _).cell xnx1_5, ((Ext.refl wnx1).alloc _).cell xnx1_6⟩) | (with_reducible exact ⟨grown_cell (b := w10.heap.size) (grown_setCell (grown_setCell (grown_setCell (grown_refl _ _) _ _) _ _) _ _) hn0_0_0 xnx1_0, grown_cell (b := w10.heap.size) (grown_setCell (grown_setCell (grown_setCell (grown_refl _ _) _ _) _ _) _ _) hn0_0_0 xnx1_1, grown_cell (b := w10.heap.size) (grown_setCell (grown_setCell (grown_setCell (grown_refl _ _) _ _) _ _) _ _) hn0_0_0 xnx1_2, grown_cell (b := w10.heap.size) (grown_setCell (grown_setCell (grown_setCell (grown_refl _ _) _ _) _ _) _ _) hn0_0_1 xnx1_3, grown_cell (b := w10.heap.size) (grown_setCell (grown_setCell (grown_setCell (grown_refl _ _) _ _) _ _) _ _) hn0_0_1 xnx1_4, grown_cell (b := w10.heap.size) (grown_setCell (grown_setCell (grown_setCell (grown_refl _ _) _ _) _ _) _ _) hn0_0_1 xnx1_5, grown_cell (b := w10.heap.size) (grown_setCell (grown_setCell (grown_setCell (grown_refl _ _) _ _) _ _) _ _) hn0_0_2 xnx1_6⟩))
              refine wpAnyH_done (by kernel_rfl) ?_ _
              go_wp2_with fail
              go_meet
              exact ⟨wnx1.heap.size, nxp1, nxn1, nxc1, nxp2, nxn2, nxc2, nxp3, nxn3, nxc3, rfl, rfl, Blk.new wnx1 #[.slice nxp1 nxn1 nxc1, .slice nxp2 nxn2 nxc2, .slice nxp3 nxn3 nxc3] _, Enx1.alloc _, o4m.ext ((Ext.refl _).alloc _)⟩
            refine AllReadyH.cons rfl (fun Kc hKc => ?_) AllReadyH.nil
            go_simp
            refine hKc.out _ _ ?_ (fun hHeld => ?_) <;> clear hKc Kc
            · (first | (with_reducible exact ⟨((Ext.refl w10).drew).cell ir0_10, ((Ext.refl w10).drew).cell ir1_10, ((Ext.refl w10).drew).cell ir2_10, ((Ext.refl w10).drew).cell is0_10, ((Ext.refl w10).drew).cell is1_10, ((Ext.refl w10).drew).cell is2_10, ((Ext.refl w10).drew).cell hcvx⟩) | (with_reducible exact ⟨(((Ext.refl w10).alloc _).drew).cell ir0_10, (((Ext.refl w10).alloc _).drew).cell ir1_10, (((Ext.refl w10).alloc _).drew).cell ir2_10, (((Ext.refl w10).alloc _).drew).cell is0_10, (((Ext.refl w10).alloc _).drew).cell is1_10, (((Ext.refl w10).alloc _).drew).cell is2_10, (((Ext.refl w10).alloc _).drew).cell hcvx⟩) | (with_reducible exact ⟨xnx1_0, xnx1_1, xnx1_2, xnx1_3, xnx1_4, xnx1_5, xnx1_6⟩) | (with_reducible exact ⟨((Ext.refl wnx1).alloc _).cell xnx1_0, ((Ext.refl wnx1).alloc _).cell xnx1_1, ((Ext.refl wnx1).alloc _).cell xnx1_2, ((Ext.refl wnx1).alloc _).cell xnx1_3, ((Ext.refl wnx1).alloc _).cell xnx1_4, ((Ext.refl wnx1).alloc _).cell xnx1_5, ((Ext.refl wnx1).alloc _).cell xnx1_6⟩) | (with_reducible exact ⟨grown_cell (b := w10.heap.size) (grown_setCell (grown_setCell (grown_setCell (grown_refl _ _) _ _) _ _) _ _) hn0_0_0 xnx1_0, grown_cell (b := w10.heap.size) (grown_setCell (grown_setCell (grown_setCell (grown_refl _ _) _ _) _ _) _ _) hn0_0_0 xnx1_1, grown_cell (b := w10.heap.size) (grown_setCell (grown_setCell (grown_setCell (grown_refl _ _) _ _) _ _) _ _) hn0_0_0 xnx1_2, grown_cell (b := w10.heap.size) (grown_setCell (grown_setCell (grown_setCell (grown_refl _ _) _ _) _ _) _ _) hn0_0_1 xnx1_3, grown_cell (b := w10.heap.size) (grown_setCell (grown_setCell (grown_setCell (grown_refl _ _) _ _) _ _) _ _) hn0_0_1 xnx1_4, grown_cell (b := w10.heap.size) (grown_setCell (grown_setCell (grown_setCell (grown_refl _ _) _ _) _ _) _ _) hn0_0_1 xnx1_5, grown_cell (b := w10.heap.size) (grown_setCell (grown_setCell (grown_setCell (grown_refl _ _) _ _) _ _) _ _) hn0_0_2 xnx1_6⟩))
            refine wpAnyH_ready (rs := [7]) (by kernel_rfl) (by simp) ?_
            refine AllReadyH.cons rfl (fun Kc hKc => ?_) AllReadyH.nil
            go_simp; go_at_call 38
            have Eq0 : Ext w10 (w10.alloc (.cells #[.slice none 0 0, .slice none 0 0, .slice none 0 0] 31)).drew := (((Ext.refl w10).alloc _).drew); (with_reducible refine (sliceTensor_any HR.out hT.out f v HM.out v0 v1 _ (w10.alloc (.cells #[.slice none 0 0, .slice none 0 0, .slice none 0 0] 31)).drew ((ot9.ext h10).ext Eq0)).mono ?_); rintro enx1 wnx1 ⟨v9, rfl, onx, hnx1⟩; have Enx1 : Ext w10 wnx1 := Eq0.trans hnx1; have xnx1_0 := Enx1.cell ir0_10; have xnx1_1 := Enx1.cell ir1_10; have xnx1_2 := Enx1.cell ir2_10; have xnx1_3 := Enx1.cell is0_10; have xnx1_4 := Enx1.cell is1_10; have xnx1_5 := Enx1.cell is2_10; have xnx1_6 := Enx1.cell hcvx; have hnx1zs := Enx1.size; have Y1 : Blk wnx1 (w10.heap.size) 31 [.slice none 0 0, .slice none 0 0, .slice none 0 0] := ((Blk.newB (w := w10) (c := #[.slice none 0 0, .slice none 0 0, .slice none 0 0]) (b := w10.heap.size) (by simp)).ext ((Ext.refl _).drew)).ext hnx1; have ltY1 := Y1.lt; obtain ⟨nxp1, nxn1, nxc1, nxp2, nxn2, nxc2, nxp3, nxn3, nxc3, rfl⟩ := onx.shape; have o4m := onx.mono (B' := w10.heap.size) Eq0.size; have o5m := onx.mono (B' := w10.heap.size + 1) (by first | (simp; done) | (simp; omega) | omega); have fb_0 := Y1.free 0; have yb_0 := Y1.cell (j := 0) rfl; have fb_1 := Y1.free 1; have yb_1 := Y1.cell (j := 1) rfl; have fb_2 := Y1.free 2; have yb_2 := Y1.cell (j := 2) rfl; have ylb := Y1.lt; have hn1_0_0 : w.heap.size ≠ wnx1.heap.size := (by omega); have hn1_0_1 : w3.heap.size ≠ wnx1.heap.size := (by omega); have hn1_0_2 : bv ≠ wnx1.heap.size := (by omega)
            (try go_simp)
            refine hKc.out _ _ ?_ (fun hHeld => ?_) <;> clear hKc Kc
            · (first | (with_reducible exact ⟨((Ext.refl w10).drew).cell ir0_10, ((Ext.refl w10).drew).cell ir1_10, ((Ext.refl w10).drew).cell ir2_10, ((Ext.refl w10).drew).cell is0_10, ((Ext.refl w10).drew).cell is1_10, ((Ext.refl w10).drew).cell is2_10, ((Ext.refl w10).drew).cell hcvx⟩) | (with_reducible exact ⟨(((Ext.refl w10).alloc _).drew).cell ir0_10, (((Ext.refl w10).alloc _).drew).cell ir1_10, (((Ext.refl w10).alloc _).drew).cell ir2_10, (((Ext.refl w10).alloc _).drew).cell is0_10, (((Ext.refl w10).alloc _).drew).cell is1_10, (((Ext.refl w10).alloc _).drew).cell is2_10, (((Ext.refl w10).alloc _).drew).cell hcvx⟩) | (with_reducible exact ⟨xnx1_0, xnx1_1, xnx1_2, xnx1_3, xnx1_4, xnx1_5, xnx1_6⟩) | (with_reducible exact ⟨((Ext.refl wnx1).alloc _).cell xnx1_0, ((Ext.refl wnx1).alloc _).cell xnx1_1, ((Ext.refl wnx1).alloc _).cell xnx1_2, ((Ext.refl wnx1).alloc _).cell xnx1_3, ((Ext.refl wnx1).alloc _).cell xnx1_4, ((Ext.refl wnx1).alloc _).cell xnx1_5, ((Ext.refl wnx1).alloc _).cell xnx1_6⟩) | (with_reducible exact ⟨grown_cell (b := w10.heap.size) (grown_setCell (grown_setCell (grown_setCell (grown_refl _ _) _ _) _ _) _ _) hn0_0_0 xnx1_0, grown_cell (b := w10.heap.size) (grown_setCell (grown_setCell (grown_setCell (grown_refl _ _) _ _) _ _) _ _) hn0_0_0 xnx1_1, grown_cell (b := w10.heap.size) (grown_setCell (grown_setCell (grown_setCell (grown_refl _ _) _ _) _ _) _ _) hn0_0_0 xnx1_2, grown_cell (b := w10.heap.size) (grown_setCell (grown_setCell (grown_setCell (grown_refl _ _) _ _) _ _) _ _) hn0_0_1 xnx1_3, grown_cell (b := w10.heap.size) (grown_setCell (grown_setCell (grown_setCell (grown_refl _ _) _ _) _ _) _ _) hn0_0_1 xnx1_4, grown_cell (b := w10.heap.size) (grown_setCell (grown_setCell (grown_setCell (grown_refl _ _) _ _) _ _) _ _) hn0_0_1 xnx1_5, grown_cell (b := w10.heap.size) (grown_setCell (grown_setCell (grown_setCell (grown_refl _ _) _ _) _ _) _ _) hn0_0_2 xnx1_6⟩))
            refine wpAnyH_take (i := 8) (v := ?_) rfl (by kernel_rfl) (by kernel_rfl) (by kernel_rfl) (fun _ _ _ h => h) (Or.inl ⟨by rfl, ?_⟩) (by assumption) ?_
            rotate_left
            · intro w hSw; (try dsimp only at hSw); go_simp; (try with_reducible rfl)
            (try go_simp)
            refine wpAnyH_take (i := 9) (v := ?_) rfl (by kernel_rfl) (by kernel_rfl) (by kernel_rfl) (fun _ _ _ h => h) (Or.inl ⟨by rfl, ?_⟩) (by assumption) ?_
            rotate_left
            · intro w hSw; (try dsimp only at hSw); go_simp; (try with_reducible rfl)
            (try go_simp)
            refine wpAnyH_take (i := 10) (v := ?_) rfl (by kernel_rfl) (by kernel_rfl) (by kernel_rfl) (fun _ _ _ h => h) (Or.inl ⟨by rfl, ?_⟩) (by assumption) ?_
            rotate_left
            · intro w hSw; (try dsimp only at hSw); go_simp; (try with_reducible rfl)
            (try go_simp)
            refine wpAnyH_ready (rs := [12]) (by kernel_rfl) (by simp) ?_
            refine AllReadyH.cons rfl (fun Kc hKc => ?_) AllReadyH.nil
            go_simp
            refine hKc.out _ _ ?_ (fun hHeld => ?_) <;> clear hKc Kc
            · (first | (with_reducible exact ⟨((Ext.refl w10).drew).cell ir0_10, ((Ext.refl w10).drew).cell ir1_10, ((Ext.refl w10).drew).cell ir2_10, ((Ext.refl w10).drew).cell is0_10, ((Ext.refl w10).drew).cell is1_10, ((Ext.refl w10).drew).cell is2_10, ((Ext.refl w10).drew).cell hcvx⟩) | (with_reducible exact ⟨(((Ext.refl w10).alloc _).drew).cell ir0_10, (((Ext.refl w10).alloc _).drew).cell ir1_10, (((Ext.refl w10).alloc _).drew).cell ir2_10, (((Ext.refl w10).alloc _).drew).cell is0_10, (((Ext.refl w10).alloc _).drew).cell is1_10, (((Ext.refl w10).alloc _).drew).cell is2_10, (((Ext.refl w10).alloc _).drew).cell hcvx⟩) | (with_reducible exact ⟨xnx1_0, xnx1_1, xnx1_2, xnx1_3, xnx1_4, xnx1_5, xnx1_6⟩) | (with_reducible exact ⟨((Ext.refl wnx1).alloc _).cell xnx1_0, ((Ext.refl wnx1).alloc _).cell xnx1_1, ((Ext.refl wnx1).alloc _).cell xnx1_2, ((Ext.refl wnx1).alloc _).cell xnx1_3, ((Ext.refl wnx1).alloc _).cell xnx1_4, ((Ext.refl wnx1).alloc _).cell xnx1_5, ((Ext.refl wnx1).alloc _).cell xnx1_6⟩) | (with_reducible exact ⟨grown_cell (b := w10.heap.size) (grown_setCell (grown_setCell (grown_setCell (grown_refl _ _) _ _) _ _) _ _) hn0_0_0 xnx1_0, grown_cell (b := w10.heap.size) (grown_setCell (grown_setCell (grown_setCell (grown_refl _ _) _ _) _ _) _ _) hn0_0_0 xnx1_1, grown_cell (b := w10.heap.size) (grown_setCell (grown_setCell (grown_setCell (grown_refl _ _) _ _) _ _) _ _) hn0_0_0 xnx1_2, grown_cell (b := w10.heap.size) (grown_setCell (grown_setCell (grown_setCell (grown_refl _ _) _ _) _ _) _ _) hn0_0_1 xnx1_3, grown_cell (b := w10.heap.size) (grown_setCell (grown_setCell (grown_setCell (grown_refl _ _) _ _) _ _) _ _) hn0_0_1 xnx1_4, grown_cell (b := w10.heap.size) (grown_setCell (grown_setCell (grown_setCell (grown_refl _ _) _ _) _ _) _ _) hn0_0_1 xnx1_5, grown_cell (b := w10.heap.size) (grown_setCell (grown_setCell (grown_setCell (grown_refl _ _) _ _) _ _) _ _) hn0_0_2 xnx1_6⟩))
            refine wpAnyH_ready (rs := [13]) (by kernel_rfl) (by simp) ?_
            refine AllReadyH.cons rfl (fun Kc hKc => ?_) AllReadyH.nil
            go_simp
            refine hKc.out _ _ ?_ (fun hHeld => ?_) <;> clear hKc Kc
            · (first | (with_reducible exact ⟨((Ext.refl w10).drew).cell ir0_10, ((Ext.refl w10).drew).cell ir1_10, ((Ext.refl w10).drew).cell ir2_10, ((Ext.refl w10).drew).cell is0_10, ((Ext.refl w10).drew).cell is1_10, ((Ext.refl w10).drew).cell is2_10, ((Ext.refl w10).drew).cell hcvx⟩) | (with_reducible exact ⟨(((Ext.refl w10).alloc _).drew).cell ir0_10, (((Ext.refl w10).alloc _).drew).cell ir1_10, (((Ext.refl w10).alloc _).drew).cell ir2_10, (((Ext.refl w10).alloc _).drew).cell is0_10, (((Ext.refl w10).alloc _).drew).cell is1_10, (((Ext.refl w10).alloc _).drew).cell is2_10, (((Ext.refl w10).alloc _).drew).cell hcvx⟩) | (with_reducible exact ⟨xnx1_0, xnx1_1, xnx1_2, xnx1_3, xnx1_4, xnx1_5, xnx1_6⟩) | (with_reducible exact ⟨((Ext.refl wnx1).alloc _).cell xnx1_0, ((Ext.refl wnx1).alloc _).cell xnx1_1, ((Ext.refl wnx1).alloc _).cell xnx1_2, ((Ext.refl wnx1).alloc _).cell xnx1_3, ((Ext.refl wnx1).alloc _).cell xnx1_4, ((Ext.refl wnx1).alloc _).cell xnx1_5, ((Ext.refl wnx1).alloc _).cell xnx1_6⟩) | (with_reducible exact ⟨grown_cell (b := w10.heap.size) (grown_setCell (grown_setCell (grown_setCell (grown_refl _ _) _ _) _ _) _ _) hn0_0_0 xnx1_0, grown_cell (b := w10.heap.size) (grown_setCell (grown_setCell (grown_setCell (grown_refl _ _) _ _) _ _) _ _) hn0_0_0 xnx1_1, grown_cell (b := w10.heap.size) (grown_setCell (grown_setCell (grown_setCell (grown_refl _ _) _ _) _ _) _ _) hn0_0_0 xnx1_2, grown_cell (b := w10.heap.size) (grown_setCell (grown_setCell (grown_setCell (grown_refl _ _) _ _) _ _) _ _) hn0_0_1 xnx1_3, grown_cell (b := w10.heap.size) (grown_setCell (grown_setCell (grown_setCell (grown_refl _ _) _ _) _ _) _ _) hn0_0_1 xnx1_4, grown_cell (b := w10.heap.size) (grown_setCell (grown_setCell (grown_setCell (grown_refl _ _) _ _) _ _) _ _) hn0_0_1 xnx1_5, grown_cell (b := w10.heap.size) (grown_setCell (grown_setCell (grown_setCell (grown_refl _ _) _ _) _ _) _ _) hn0_0_2 xnx1_6⟩))
            refine wpAnyH_done (by kernel_rfl) ?_ _
            go_wp2_with fail
            go_meet
            exact ⟨w10.heap.size, nxp1, nxn1, nxc1, nxp2, nxn2, nxc2, nxp3, nxn3, nxc3, rfl, rfl, (((Y1.set 0 (.slice nxp1 nxn1 nxc1)).set 1 (.slice nxp2 nxn2 nxc2)).set 2 (.slice nxp3 nxn3 nxc3)), (((Enx1.setAt (Nat.le_refl _) _ _).setAt (Nat.le_refl _) _ _).setAt (Nat.le_refl _) _ _), (((o5m.setBelow (p := ⟨w10.heap.size, 0, none⟩) (Nat.lt_succ_self _) _).setBelow (p := ⟨w10.heap.size, 1, none⟩) (Nat.lt_succ_self _) _).setBelow (p := ⟨w10.heap.size, 2, none⟩) (Nat.lt_succ_self _) _).mono (by omega)⟩
        obtain ⟨w11, rfl⟩ : ∃ x, x = wc := ⟨wc, rfl⟩
        obtain ⟨bu11, nxp1, nxn1, nxc1, nxp2, nxn2, nxc2, nxp3, nxn3, nxc3, rfl, rfl, Bnx11, h11, onx⟩ := hcut
        clear ir0_10 ir1_10 ir2_10 lr_10 ia0_10 ia1_10 ia2_10 la_10 iz0_10 iz1_10 iz2_10 lz_10 is0_10 is1_10 is2_10 ls_10
        have Br11 := (Br10.ext h11)
        clear Br10
        have ir0_11 := Br11.cell (j := 0) rfl
        have ir1_11 := Br11.cell (j := 1) rfl
        have ir2_11 := Br11.cell (j := 2) rfl
        have lr_11 := Br11.lt
        have Ba11 := (Ba10.ext h11)
        clear Ba10
        have ia0_11 := Ba11.cell (j := 0) rfl
        have ia1_11 := Ba11.cell (j := 1) rfl
        have ia2_11 := Ba11.cell (j := 2) rfl
        have la_11 := Ba11.lt
        have Bz11 := (Bz10.ext h11)
        clear Bz10
        have iz0_11 := Bz11.cell (j := 0) rfl
        have iz1_11 := Bz11.cell (j := 1) rfl
        have iz2_11 := Bz11.cell (j := 2) rfl
        have lz_11 := Bz11.lt
        have Bs11 := (Bs10.ext h11)
        clear Bs10
        have is0_11 := Bs11.cell (j := 0) rfl
        have is1_11 := Bs11.cell (j := 1) rfl
        have is2_11 := Bs11.cell (j := 2) rfl
        have ls_11 := Bs11.lt
        have Bnx11 := Bnx11
        have inx0_11 := Bnx11.cell (j := 0) rfl
        have inx1_11 := Bnx11.cell (j := 1) rfl
        have inx2_11 := Bnx11.cell (j := 2) rfl
        have lnx_11 := Bnx11.lt
        have fs_0 := Bs11.free 0
        have fs_1 := Bs11.free 1
        have fs_2 := Bs11.free 2
        have hlts := Bs11.lt
        have hbs2 : w3.heap.size < w10.heap.size := by have := HSZ4.out; have := h10.size; omega
        have HON := Lib.hid onx
        go_wp2_with fail
        go_roundw
        case rel => exact ⟨j + 1, cutL M f, _, _, _, _, _, _, _, _, _, _, by omega, by go_num, Lib.hid HX2.out, Lib.hid (cutXs_isT hr hT.out f (fun _ => v)), ((Bs11.set 0 (.slice nxp1 nxn1 nxc1)).set 1 (.slice nxp2 nxn2 nxc2)).set 2 (.slice nxp3 nxn3 nxc3), (((HON.out.setBelow (p := ⟨w3.heap.size, 0, none⟩) hbs2 _).setBelow (p := ⟨w3.heap.size, 1, none⟩) hbs2 _).setBelow (p := ⟨w3.heap.size, 2, none⟩) hbs2 _).mono (by have := ((h9.trans h10)).size; omega), ((((h9.trans (h10.trans h11))).setAt hw1s _ _).setAt hw1s _ _).setAt hw1s _ _, by have := ((h10.trans h11)).size; simp; omega⟩
        case measure => simp [RowKit.intOf]; omega
      · skip
        have HQ := Lib.hid (not_find hm)
        have hHas : hasL M f = false := hasL_not.2 hm
        have hx := HX.out; rw [hHas, if_neg (by simp), if_neg (by simp)] at hx
        have HX2 := Lib.hid (And.intro hx.1 hx.2.2); clear hx hHas hm
        refine (axisOf_any _ M _ _ f _ ot9).mono ?_; rintro e30 w30 ⟨rfl, h30⟩
        rw [HQ.out]
        clear ir0_9 ir1_9 ir2_9 lr_9 ia0_9 ia1_9 ia2_9 la_9 iz0_9 iz1_9 iz2_9 lz_9 is0_9 is1_9 is2_9 ls_9
        have Br30 := (Br9.ext h30)
        clear Br9
        have ir0_30 := Br30.cell (j := 0) rfl
        have ir1_30 := Br30.cell (j := 1) rfl
        have ir2_30 := Br30.cell (j := 2) rfl
        have lr_30 := Br30.lt
        have Ba30 := (Ba9.ext h30)
        clear Ba9
        have ia0_30 := Ba30.cell (j := 0) rfl
        have ia1_30 := Ba30.cell (j := 1) rfl
        have ia2_30 := Ba30.cell (j := 2) rfl
        have la_30 := Ba30.lt
        have Bz30 := (Bz9.ext h30)
        clear Bz9
        have iz0_30 := Bz30.cell (j := 0) rfl
        have iz1_30 := Bz30.cell (j := 1) rfl
        have iz2_30 := Bz30.cell (j := 2) rfl
        have lz_30 := Bz30.lt
        have Bs30 := (Bs9.ext h30)
        clear Bs9
        have is0_30 := Bs30.cell (j := 0) rfl
        have is1_30 := Bs30.cell (j := 1) rfl
        have is2_30 := Bs30.cell (j := 2) rfl
        have ls_30 := Bs30.lt
        go_wp2_with fail
        go_roundw
        case rel => exact ⟨j + 1, M, ys, _, _, _, _, _, _, _, _, _, by omega, by go_num, Lib.hid HX2.out, hT, Bs30, oS9.ext h30, (h9.trans h30), by have := h30.size; omega⟩
        case measure => simp [RowKit.intOf]; omega
    · skip
      have hje : j = F.length := by omega
      subst hje
      have hres := hX.out.1
      rw [List.drop_length, fixT_nil] at hres
      subst hres
      have hlt3 : w.heap.size + 1 + 1 < w1.heap.size := by have := HS1.out; omega
      have hzs : w.heap.size + 1 + 1 ≠ w3.heap.size := by have := (h2.trans h3).size; omega
      have hzs2 : w3.heap.size ≠ w.heap.size + 1 + 1 := hzs.symm
      have fz0 := Bz9.free 0
      have fz1 := Bz9.free 1
      have fz2 := Bz9.free 2
      have HO := Lib.hid oS9; clear oS9 hX
      go_upto_region 13 with fail
      repeat go_step
      refine bodyPost_ret (v := .tuple #[.agg #[.slice yp1 yn1 yc1, .slice yp2 yn2 yc2, .slice yp3 yn3 yc3], .bool true]) (by simp [results, Try.results40, go_sem, *]) rfl ?_
      exact ⟨_, rfl, (((HO.out.setBelow hlt3 _).setBelow hlt3 _).setBelow hlt3 _).mono (by omega), (((h1.trans h9).setAt (by omega) _ _).setAt (by omega) _ _).setAt (by omega) _ _⟩
end
end Go.Proofs.Ytabeciopggofkaa
