/- SliceTensor of the program. -/
import Derived.Test.YtpegckmagiaggaaEBase
import Derived.Test.YtpegckmagiaggaaEPermW
import Derived.Test.YtpegckmagiaggaaEG10
import Derived.Test.YtpegckmagiaggaaEIntoO
namespace Go.Proofs.Ytpegckmagiaggaa
open Go.RowKit
set_option linter.unusedSimpArgs false
set_option linter.unusedVariables false
section
variable {k p n : Int} (hr : ringOk k p n = true)
set_option maxRecDepth 100000 in
set_option maxHeartbeats 8000000 in
theorem sliceTensor_any {dm : Int → Int} {U L : List Int} {xs : List (El k p n)} (ht : IsT k p n dm U L xs) (c v : Int) (hcL : c ∈ L) (v0 : 0 ≤ v) (v1 : v < dm c) (va : Value) (w : World) (ha : TenS w va L (L.map dm) (flat xs)) :
    Calls Try.prog 41 #[ringV k p n, va, .int .i64 c, .int .i64 v] w fun e w' => ∃ u, e = .returned (.tuple #[u, .bool true]) ∧ OwnT w' w.heap.size u (cutL L c) ((cutL L c).map dm) (flat (cutXs hr dm L c (fun _ => v) xs)) ∧ Ext w w' := by
  have ha0 := ha
  obtain ⟨ap1, an1, ac1, ap2, an2, ac2, ap3, an3, ac3, rfl⟩ := ha.shape
  obtain ⟨_, _, _, hvv, haL, haD, haX⟩ := ha.val
  simp at hvv
  obtain ⟨rfl, rfl, rfl⟩ := hvv
  obtain ⟨_, _, hvv, _, _⟩ := haL.val
  simp at hvv
  obtain ⟨rfl, rfl, rfl⟩ := hvv
  obtain ⟨_, _, hvv, _, _⟩ := haD.val
  simp at hvv
  obtain ⟨rfl, rfl, rfl⟩ := hvv
  obtain ⟨_, _, hvv, _, _⟩ := haX.val
  simp at hvv
  obtain ⟨rfl, rfl, rfl⟩ := hvv
  obtain ⟨P, W, hP, hW, hP1, hP2, hW1', hW6, hXl⟩ := (ht.ok hr).nat hr
  have hPW1 : 1 ≤ P * W := Nat.mul_le_mul hP1 hW1'
  have hPW : P * W ≤ 4096 * 6 := Nat.mul_le_mul hP2 hW6
  obtain ⟨bA, oA, cA, hXX, hcA, _, hbA⟩ := haX.open (by omega)
  cases hXX
  have hX9 : (flat xs).length ≤ 1048576 := by omega
  have HT := Lib.hid ht; clear ht
  have HWW := Lib.hid hW
  have HR := Lib.hid hr
  have HYA := Lib.hid (HT.out.yes hr)
  have hw := ringOk_wide hr
  have hrk : L.length ≤ 12 := HT.out.ax.rank
  have hst0 : 0 ≤ stride L (L.map dm) c := stride_nonneg L (L.map dm) HT.out.ax.dims c
  have hst9 : stride L (L.map dm) c ≤ 4096 := by have := stride_le L (L.map dm) HT.out.ax.dims c; have := HT.out.ax.size; omega
  have HSTall : Hid (∀ l, 0 ≤ stride L (L.map dm) l ∧ stride L (L.map dm) l ≤ 4096) := Lib.hid fun l => ⟨stride_nonneg L (L.map dm) HT.out.ax.dims l, by have := stride_le L (L.map dm) HT.out.ax.dims l; have := HT.out.ax.size; omega⟩
  obtain ⟨Z, hZ⟩ : ∃ Z, size (axs dm (cutL L c)) = Z := ⟨_, rfl⟩
  obtain ⟨hz1, hz2⟩ := HT.out.uni.small (HT.out.sub.cut c)
  rw [hZ] at hz1 hz2
  obtain ⟨Ys, hYs⟩ : ∃ Ys, cutXs hr dm L c (fun _ => v) xs = Ys := ⟨_, rfl⟩
  have HYl : Hid (Ys.length = Z) := Lib.hid (by rw [← hYs, ← hZ]; exact tab_length _ _ _)
  have HStep := Lib.hid (fun (o : Nat) (ho : o < size (axs dm (cutL L c))) => slice_step hr HWW.out HT.out hcL v0 v1 ho)
  rw [hZ, hYs] at HStep
  rw [hYs]
  obtain ⟨M, hM⟩ : ∃ M, cutL L c = M := ⟨_, rfl⟩
  have hMs : ∀ m ∈ M, m ∈ L := by rw [← hM]; exact fun m hm => (mem_cutL.1 hm).1
  have sM : Hid (Sub U M) := Lib.hid (by rw [← hM]; exact HT.out.sub.cut c)
  have AXM := Lib.hid (HT.out.uni.ax sM.out)
  have hml : M.length ≤ 12 := AXM.out.rank
  have HMs := Lib.hid hMs
  rw [hM] at HStep hZ ⊢
  have HM := Lib.hid hM; have HZ := Lib.hid hZ; have HYs := Lib.hid hYs
  have hmk := mkInts M.length (by omega)
  obtain ⟨ic, hfc, hic, hLc, hDc⟩ := map_get_find (dm := dm) hcL
  have HFC := Lib.hid hfc
  obtain ⟨bC, oC, dC, hzz, hcc, hdc, _⟩ := haD.get (i := ic) (by simpa using hic)
  cases hzz
  obtain rfl : dC = dm c := by rw [hDc] at hdc; exact (Option.some.inj hdc).symm
  clear hP hP1 hXl hPW1 hPW hW hM hMs hZ hYs hfc hLc hDc hdc
  generalize hW1 : (((w.alloc (.cells #[.int .i64 k, .int .i64 p, .int .i64 n] 24)).alloc (.cells #[.slice ap1 L.length ac1, .slice (some ⟨bC, oC, none⟩) L.length ac2, .slice (some ⟨bA, oA, none⟩) (flat xs).length ac3] 32)).alloc (.cells #[.slice none 0 0, .slice none 0 0, .slice none 0 0] 32)) = w1
  have h1 : Ext w w1 := by rw [← hW1]; exact (by repeat' (first | (with_reducible exact Ext.refl _) | (with_reducible assumption) | (with_reducible apply Ext.alloc) | (with_reducible apply Ext.drew) | (with_reducible apply Ext.drewN) | (refine Ext.setAt ?_ (by omega) _ _) | (refine Ext.trans ?_ (by assumption))))
  have Br : Blk w1 (w.heap.size) 24 [.int .i64 k, .int .i64 p, .int .i64 n] := by rw [← hW1]; exact (((Blk.newB (c := #[_, _, _]) (by simp)).alloc _).alloc _)
  have Ba : Blk w1 (w.heap.size + 1) 32 [.slice ap1 L.length ac1, .slice (some ⟨bC, oC, none⟩) L.length ac2, .slice (some ⟨bA, oA, none⟩) (flat xs).length ac3] := by rw [← hW1]; exact ((Blk.newB (c := #[_, _, _]) (by simp)).alloc _)
  have Bz : Blk w1 (w.heap.size + 2) 32 [.slice none 0 0, .slice none 0 0, .slice none 0 0] := by rw [← hW1]; exact (Blk.newB (c := #[_, _, _]) (by simp))
  have HS1 : Hid (w1.heap.size = w.heap.size + 3) := Lib.hid (by rw [← hW1]; simp)
  have HW := Lib.hid hW1; clear hW1
  go_enter Try.func41, Try.ntmps41
  go_wp2_with fail
  rw [HW.out]
  have ir_0 := Br.cell (j := 0) rfl
  have ir_1 := Br.cell (j := 1) rfl
  have ir_2 := Br.cell (j := 2) rfl
  have ia_0 := Ba.cell (j := 0) rfl
  have ia_1 := Ba.cell (j := 1) rfl
  have ia_2 := Ba.cell (j := 2) rfl
  go_wp2_with fail
  refine (tensorOk_impl k p n _ L _ _ _ (ha0.ext h1)).mono ?_; rintro e2 w2 ⟨rfl, h2⟩; rw [HYA.out]
  clear ir_0 ir_1 ir_2 ia_0 ia_1 ia_2
  have B2r := Br.ext h2
  have B2a := Ba.ext h2
  have B2z := Bz.ext h2
  have j2r_0 := B2r.cell (j := 0) rfl
  have j2r_1 := B2r.cell (j := 1) rfl
  have j2r_2 := B2r.cell (j := 2) rfl
  have j2a_0 := B2a.cell (j := 0) rfl
  have j2a_1 := B2a.cell (j := 1) rfl
  have j2a_2 := B2a.cell (j := 2) rfl
  have l2r := B2r.lt
  have l2a := B2a.lt
  have l2z := B2z.lt
  have hcc2 := (h1.trans h2).cell hcc
  go_wp2_with fail
  refine (axisOf_any _ L _ _ c _ (ha0.ext (h1.trans h2))).mono ?_; rintro e3 w3 ⟨rfl, h3⟩; rw [HFC.out]
  clear j2r_0 j2r_1 j2r_2 j2a_0 j2a_1 j2a_2 l2r l2a l2z
  have B3r := B2r.ext h3
  have B3a := B2a.ext h3
  have B3z := B2z.ext h3
  have j3r_0 := B3r.cell (j := 0) rfl
  have j3r_1 := B3r.cell (j := 1) rfl
  have j3r_2 := B3r.cell (j := 2) rfl
  have j3a_0 := B3a.cell (j := 0) rfl
  have j3a_1 := B3a.cell (j := 1) rfl
  have j3a_2 := B3a.cell (j := 2) rfl
  have l3r := B3r.lt
  have l3a := B3a.lt
  have l3z := B3z.lt
  have E3 : Ext w1 w3 := h2.trans h3
  have hcc3 := h3.cell hcc2
  have HS13 : Hid (w1.heap.size ≤ w3.heap.size) := Lib.hid E3.size
  go_wp2_with fail
  refine (withoutInt_any _ L c _ (haL.ext (h1.trans E3)) (by omega)).mono ?_; rintro e4 w4 ⟨v4, rfl, oM, h4⟩
  rw [HM.out] at oM
  obtain ⟨aM, cM, rfl, _, _⟩ := oM.ints.val
  clear j3r_0 j3r_1 j3r_2 j3a_0 j3a_1 j3a_2 l3r l3a l3z
  have E4 : Ext w1 w4 := E3.trans h4
  have B4r := Br.ext E4
  have B4a := Ba.ext E4
  have B4z := Bz.ext E4
  have j4r_0 := B4r.cell (j := 0) rfl
  have j4r_1 := B4r.cell (j := 1) rfl
  have j4r_2 := B4r.cell (j := 2) rfl
  have j4a_0 := B4a.cell (j := 0) rfl
  have j4a_1 := B4a.cell (j := 1) rfl
  have j4a_2 := B4a.cell (j := 2) rfl
  have l4r := B4r.lt
  have l4a := B4a.lt
  have l4z := B4z.lt
  go_wp2_with fail
  generalize hW5 : w4.alloc (.cells #[.slice aM M.length cM, .slice none 0 0, .slice none 0 0] 32) = w5
  have h5 : Ext w4 w5 := by rw [← hW5]; exact (Ext.refl _).alloc _
  have Bd : Blk w5 w4.heap.size 32 [.slice aM M.length cM, .slice none 0 0, .slice none 0 0] := by rw [← hW5]; exact Blk.new w4 #[_, _, _] 32
  have HS5 : Hid (w5.heap.size = w4.heap.size + 1) := Lib.hid (by rw [← hW5]; simp)
  clear hW5
  clear j4r_0 j4r_1 j4r_2 j4a_0 j4a_1 j4a_2 l4r l4a l4z
  have hs4 := h4.size
  have oM1 : OwnI w4 w1.heap.size (.slice aM M.length cM) M := oM.mono (by have := HS13.out; omega)
  have oM5 := oM1.ext h5
  have NM : Hid (∀ q, (Value.slice aM M.length cM).ownBlock = some q → q < w4.heap.size) := Lib.hid fun q hq => (oM1.block_lt hq).2
  have HS34 : Hid (w1.heap.size ≤ w4.heap.size) := Lib.hid (by have := HS13.out; omega)
  have E5 : Ext w1 w5 := E4.trans h5
  clear oM oM1 hs4
  have hcc1 := h1.cell hcc
  go_loopw [49] (fun i wr => ∃ (j : Nat) (vd : Value), j ≤ M.length ∧ i = .int .i64 j ∧ Blk wr w4.heap.size 32 [.slice aM M.length cM, vd, .slice none 0 0] ∧ OwnI wr w1.heap.size (.slice aM M.length cM) M ∧ OwnI wr w5.heap.size vd ((M.take j).map dm) ∧ Ext w1 wr ∧ w5.heap.size ≤ wr.heap.size) (fun i wr => M.length - (RowKit.intOf i).toNat)
  case atStart => exact ⟨0, _, Nat.zero_le _, rfl, Bd, oM5, by rw [List.take_zero]; exact OwnI.nil _ _, E5, Nat.le_refl _⟩
  case round =>
    obtain ⟨j, vd, hj, rfl, BP6, oM6, oV6, hE6, hs6⟩ := hrel
    clear Bd oM5
    have B6r := Br.ext hE6
    have B6a := Ba.ext hE6
    have B6z := Bz.ext hE6
    have j6r_0 := B6r.cell (j := 0) rfl
    have j6r_1 := B6r.cell (j := 1) rfl
    have j6r_2 := B6r.cell (j := 2) rfl
    have j6a_0 := B6a.cell (j := 0) rfl
    have j6a_1 := B6a.cell (j := 1) rfl
    have j6a_2 := B6a.cell (j := 2) rfl
    have l6r := B6r.lt
    have l6a := B6a.lt
    have l6z := B6z.lt
    have E06 : Ext w wr := h1.trans hE6
    obtain ⟨V, hV⟩ : ∃ V, (M.take j).map dm = V := ⟨_, rfl⟩
    rw [hV] at oV6
    have hVl : V.length ≤ 12 := by rw [← hV, List.length_map, List.length_take]; omega
    have HV := Lib.hid hV; clear hV
    obtain ⟨av, cv, rfl, _, _⟩ := oV6.ints.val
    have NV : Hid (∀ q, (Value.slice av V.length cv).ownBlock = some q → w5.heap.size ≤ q ∧ q < wr.heap.size) := Lib.hid fun q hq => oV6.block_lt hq
    have qd_0 := BP6.cell (j := 0) rfl
    have qd_1 := BP6.cell (j := 1) rfl
    have qd_2 := BP6.cell (j := 2) rfl
    have lqd := BP6.lt
    by_cases hlt : j < M.length
    · obtain ⟨bm, om, m, hxx, hcm, hm, _⟩ := oM6.ints.get hlt
      cases hxx
      obtain ⟨i, hf, hi, hLi, hDi⟩ := map_get_find (dm := dm) (HMs.out m (List.mem_of_getElem? hm))
      obtain ⟨bD, oD, z, hzz, hcz, hz, _⟩ := (haD.ext E06).get (i := i) (by simpa using hi)
      cases hzz
      obtain rfl : z = dm m := by rw [hDi] at hz; exact (Option.some.inj hz).symm
      have HF := Lib.hid hf; have HMm := Lib.hid hm
      clear hf hm hLi hDi hz
      have hi12 : i < L.length := hi
      have hic12 : (i : Int) < (L.length : Int) := by omega
      have D0 : Ext wr wr.drew := (Ext.refl _).drew
      have hvr := ha0.ext (E06.trans D0)
      have hczk := hcz
      have hczw : w.cell? ⟨bC, oC + i, none⟩ = some (.int .i64 (dm m)) := by
        obtain ⟨b', o', z', e', hc', hz', _⟩ := haD.get (i := i) (by simpa using hi)
        have hc2 := E06.cell hc'
        cases e'
        rw [hcz] at hc2
        rw [hc', ← Option.some.inj hc2]
      have kr_0 := Br.cell (j := 0) rfl
      have kr_1 := Br.cell (j := 1) rfl
      have kr_2 := Br.cell (j := 2) rfl
      have ka_0 := Ba.cell (j := 0) rfl
      have ka_1 := Ba.cell (j := 1) rfl
      have ka_2 := Ba.cell (j := 2) rfl
      have hnbr : w.heap.size ≠ w4.heap.size := by have := HS34.out; have := HS1.out; omega
      have hnba : w.heap.size + 1 ≠ w4.heap.size := by have := HS34.out; have := HS1.out; omega
      have hnbz : bC ≠ w4.heap.size := by have hbl : bC < w.heap.size := World.block_lt_of_cell? _ _ hczw; have := HS34.out; have := HS1.out; omega
      go_upto_region 10 with fail
      refine wp_region_held_drew (S := fun w' => w'.cell? ⟨w.heap.size, 0, none⟩ = some (.int .i64 k) ∧ w'.cell? ⟨w.heap.size, 1, none⟩ = some (.int .i64 p) ∧ w'.cell? ⟨w.heap.size, 2, none⟩ = some (.int .i64 n) ∧ w'.cell? ⟨w.heap.size + 1, 0, none⟩ = some (.slice ap1 L.length ac1) ∧ w'.cell? ⟨w.heap.size + 1, 1, none⟩ = some (.slice (some ⟨bC, oC, none⟩) L.length ac2) ∧ w'.cell? ⟨w.heap.size + 1, 2, none⟩ = some (.slice (some ⟨bA, oA, none⟩) (flat xs).length ac3) ∧ w'.cell? ⟨bC, oC + i, none⟩ = some (.int .i64 (dm m))) (by kernel_rfl) ?_ (fun hHeld => ?_)
      · (first | (with_reducible exact ⟨D0.cell j6r_0, D0.cell j6r_1, D0.cell j6r_2, D0.cell j6a_0, D0.cell j6a_1, D0.cell j6a_2, D0.cell hcz⟩) | (with_reducible exact ⟨x7r_0, x7r_1, x7r_2, x7a_0, x7a_1, x7a_2, x7z⟩) | (with_reducible exact ⟨((Ext.refl w7).alloc _).cell x7r_0, ((Ext.refl w7).alloc _).cell x7r_1, ((Ext.refl w7).alloc _).cell x7r_2, ((Ext.refl w7).alloc _).cell x7a_0, ((Ext.refl w7).alloc _).cell x7a_1, ((Ext.refl w7).alloc _).cell x7a_2, ((Ext.refl w7).alloc _).cell x7z⟩) | (with_reducible exact ⟨x9r_0, x9r_1, x9r_2, x9a_0, x9a_1, x9a_2, x9z⟩) | (with_reducible exact ⟨grown_cell (b := w4.heap.size) (grown_setCell (grown_refl _ _) _ _) hnbr x9r_0, grown_cell (b := w4.heap.size) (grown_setCell (grown_refl _ _) _ _) hnbr x9r_1, grown_cell (b := w4.heap.size) (grown_setCell (grown_refl _ _) _ _) hnbr x9r_2, grown_cell (b := w4.heap.size) (grown_setCell (grown_refl _ _) _ _) hnba x9a_0, grown_cell (b := w4.heap.size) (grown_setCell (grown_refl _ _) _ _) hnba x9a_1, grown_cell (b := w4.heap.size) (grown_setCell (grown_refl _ _) _ _) hnba x9a_2, grown_cell (b := w4.heap.size) (grown_setCell (grown_refl _ _) _ _) hnbz x9z⟩))
      refine wpAnyH_take (i := 0) (v := ?_) rfl (by kernel_rfl) (by kernel_rfl) (by kernel_rfl) (fun _ _ _ h => h) (Or.inl ⟨by rfl, ?_⟩) (by assumption) ?_
      rotate_left
      · intro w hSw; (try dsimp only at hSw); go_simp; (try with_reducible rfl)
      (try go_simp)
      refine wpAnyH_take (i := 2) (v := ?_) rfl (by kernel_rfl) (by kernel_rfl) (by kernel_rfl) (fun _ _ _ h => h) (Or.inl ⟨by rfl, ?_⟩) (by assumption) ?_
      rotate_left
      · intro w hSw; (try dsimp only at hSw); go_simp; (try with_reducible rfl)
      (try go_simp)
      refine wpAnyH_take (i := 3) (v := ?_) rfl (by kernel_rfl) (by kernel_rfl) (by kernel_rfl) (fun _ _ _ h => h) (Or.inl ⟨by rfl, ?_⟩) (by assumption) ?_
      rotate_left
      · intro w hSw; (try dsimp only at hSw); go_simp; (try with_reducible rfl)
      (try go_simp)
      refine wpAnyH_take (i := 4) (v := ?_) rfl (by kernel_rfl) (by kernel_rfl) (by kernel_rfl) (fun _ _ _ h => h) (Or.inl ⟨by rfl, ?_⟩) (by assumption) ?_
      rotate_left
      · intro w hSw; (try dsimp only at hSw); go_simp; (try with_reducible rfl)
      (try go_simp)
      refine wpAnyH_take (i := 5) (v := ?_) rfl (by kernel_rfl) (by kernel_rfl) (by kernel_rfl) (fun _ _ _ h => h) (Or.inl ⟨by rfl, ?_⟩) (by assumption) ?_
      rotate_left
      · intro w hSw; (try dsimp only at hSw); go_simp; (try with_reducible rfl)
      (try go_simp)
      refine wpAnyH_ready (rs := [1, 6]) (by kernel_rfl) (by simp) ?_
      refine AllReadyH.cons rfl (fun Kc hKc => ?_) ?_
      · skip
        go_simp
        refine hKc.out _ _ ?_ (fun hHeld => ?_) <;> clear hKc Kc
        · (first | (with_reducible exact ⟨D0.cell j6r_0, D0.cell j6r_1, D0.cell j6r_2, D0.cell j6a_0, D0.cell j6a_1, D0.cell j6a_2, D0.cell hcz⟩) | (with_reducible exact ⟨x7r_0, x7r_1, x7r_2, x7a_0, x7a_1, x7a_2, x7z⟩) | (with_reducible exact ⟨((Ext.refl w7).alloc _).cell x7r_0, ((Ext.refl w7).alloc _).cell x7r_1, ((Ext.refl w7).alloc _).cell x7r_2, ((Ext.refl w7).alloc _).cell x7a_0, ((Ext.refl w7).alloc _).cell x7a_1, ((Ext.refl w7).alloc _).cell x7a_2, ((Ext.refl w7).alloc _).cell x7z⟩) | (with_reducible exact ⟨x9r_0, x9r_1, x9r_2, x9a_0, x9a_1, x9a_2, x9z⟩) | (with_reducible exact ⟨grown_cell (b := w4.heap.size) (grown_setCell (grown_refl _ _) _ _) hnbr x9r_0, grown_cell (b := w4.heap.size) (grown_setCell (grown_refl _ _) _ _) hnbr x9r_1, grown_cell (b := w4.heap.size) (grown_setCell (grown_refl _ _) _ _) hnbr x9r_2, grown_cell (b := w4.heap.size) (grown_setCell (grown_refl _ _) _ _) hnba x9a_0, grown_cell (b := w4.heap.size) (grown_setCell (grown_refl _ _) _ _) hnba x9a_1, grown_cell (b := w4.heap.size) (grown_setCell (grown_refl _ _) _ _) hnba x9a_2, grown_cell (b := w4.heap.size) (grown_setCell (grown_refl _ _) _ _) hnbz x9z⟩))
        refine wpAnyH_ready (rs := [6]) (by kernel_rfl) (by simp) ?_
        refine AllReadyH.cons rfl (fun Kc hKc => ?_) AllReadyH.nil
        go_simp; go_at_call 94
        (with_reducible refine (axisOf_any _ L _ _ m wr.drew hvr).mono ?_); rintro e7 w7 ⟨rfl, h7⟩; rw [HF.out]; have E7 : Ext wr w7 := D0.trans h7; have x7r_0 := E7.cell j6r_0; have x7r_1 := E7.cell j6r_1; have x7r_2 := E7.cell j6r_2; have x7a_0 := E7.cell j6a_0; have x7a_1 := E7.cell j6a_1; have x7a_2 := E7.cell j6a_2; have x7z := E7.cell hcz; have q7 := E7.cell qd_1; have s7 := E7.size; have oV7 := oV6.ext E7; have oM7 := oM6.ext E7; have BP7 := BP6.ext E7; have hE7 : Ext w1 w7 := hE6.trans E7; have q7a := ((Ext.refl w7).alloc (.cells #[.int .i64 (dm m)] 3)).cell q7
        (try go_simp)
        refine hKc.out _ _ ?_ (fun hHeld => ?_) <;> clear hKc Kc
        · (first | (with_reducible exact ⟨D0.cell j6r_0, D0.cell j6r_1, D0.cell j6r_2, D0.cell j6a_0, D0.cell j6a_1, D0.cell j6a_2, D0.cell hcz⟩) | (with_reducible exact ⟨x7r_0, x7r_1, x7r_2, x7a_0, x7a_1, x7a_2, x7z⟩) | (with_reducible exact ⟨((Ext.refl w7).alloc _).cell x7r_0, ((Ext.refl w7).alloc _).cell x7r_1, ((Ext.refl w7).alloc _).cell x7r_2, ((Ext.refl w7).alloc _).cell x7a_0, ((Ext.refl w7).alloc _).cell x7a_1, ((Ext.refl w7).alloc _).cell x7a_2, ((Ext.refl w7).alloc _).cell x7z⟩) | (with_reducible exact ⟨x9r_0, x9r_1, x9r_2, x9a_0, x9a_1, x9a_2, x9z⟩) | (with_reducible exact ⟨grown_cell (b := w4.heap.size) (grown_setCell (grown_refl _ _) _ _) hnbr x9r_0, grown_cell (b := w4.heap.size) (grown_setCell (grown_refl _ _) _ _) hnbr x9r_1, grown_cell (b := w4.heap.size) (grown_setCell (grown_refl _ _) _ _) hnbr x9r_2, grown_cell (b := w4.heap.size) (grown_setCell (grown_refl _ _) _ _) hnba x9a_0, grown_cell (b := w4.heap.size) (grown_setCell (grown_refl _ _) _ _) hnba x9a_1, grown_cell (b := w4.heap.size) (grown_setCell (grown_refl _ _) _ _) hnba x9a_2, grown_cell (b := w4.heap.size) (grown_setCell (grown_refl _ _) _ _) hnbz x9z⟩))
        refine wpAnyH_take (i := 7) (v := ?_) rfl (by kernel_rfl) (by kernel_rfl) (by kernel_rfl) (fun _ _ _ h => h) (Or.inl ⟨by rfl, ?_⟩) (by assumption) ?_
        rotate_left
        · intro w hSw; (try dsimp only at hSw); go_simp; (try with_reducible rfl)
        (try go_simp)
        refine wpAnyH_take (i := 8) (v := ?_) rfl (by kernel_rfl) (by kernel_rfl) (by kernel_rfl) (fun _ _ _ h => h) (Or.inl ⟨by rfl, ?_⟩) (by assumption) ?_
        rotate_left
        · intro w hSw; (try dsimp only at hSw); go_simp; (try with_reducible rfl)
        (try go_simp)
        refine wpAnyH_ready (rs := [9]) (by kernel_rfl) (by simp) ?_
        refine AllReadyH.cons rfl (fun Kc hKc => ?_) AllReadyH.nil
        go_simp
        refine hKc.out _ _ ?_ (fun hHeld => ?_) <;> clear hKc Kc
        · (first | (with_reducible exact ⟨D0.cell j6r_0, D0.cell j6r_1, D0.cell j6r_2, D0.cell j6a_0, D0.cell j6a_1, D0.cell j6a_2, D0.cell hcz⟩) | (with_reducible exact ⟨x7r_0, x7r_1, x7r_2, x7a_0, x7a_1, x7a_2, x7z⟩) | (with_reducible exact ⟨((Ext.refl w7).alloc _).cell x7r_0, ((Ext.refl w7).alloc _).cell x7r_1, ((Ext.refl w7).alloc _).cell x7r_2, ((Ext.refl w7).alloc _).cell x7a_0, ((Ext.refl w7).alloc _).cell x7a_1, ((Ext.refl w7).alloc _).cell x7a_2, ((Ext.refl w7).alloc _).cell x7z⟩) | (with_reducible exact ⟨x9r_0, x9r_1, x9r_2, x9a_0, x9a_1, x9a_2, x9z⟩) | (with_reducible exact ⟨grown_cell (b := w4.heap.size) (grown_setCell (grown_refl _ _) _ _) hnbr x9r_0, grown_cell (b := w4.heap.size) (grown_setCell (grown_refl _ _) _ _) hnbr x9r_1, grown_cell (b := w4.heap.size) (grown_setCell (grown_refl _ _) _ _) hnbr x9r_2, grown_cell (b := w4.heap.size) (grown_setCell (grown_refl _ _) _ _) hnba x9a_0, grown_cell (b := w4.heap.size) (grown_setCell (grown_refl _ _) _ _) hnba x9a_1, grown_cell (b := w4.heap.size) (grown_setCell (grown_refl _ _) _ _) hnba x9a_2, grown_cell (b := w4.heap.size) (grown_setCell (grown_refl _ _) _ _) hnbz x9z⟩))
        refine wpAnyH_ready (rs := [10]) (by kernel_rfl) (by simp) ?_
        refine AllReadyH.cons rfl (fun Kc hKc => ?_) AllReadyH.nil
        refine step_app (w7.alloc (.cells #[.int .i64 (dm m)] 3)) rfl _ _ 27 rfl (.slice av V.length cv) (.slice (some ⟨w7.heap.size, 0, none⟩) 1 1) rfl rfl _ (run_push _ w7 w5.heap.size _ V (dm m) oV7 (by omega) (by omega)) ?_; rintro v9 w9 ⟨o9, g9, _⟩; obtain ⟨a9, c9, hv9, _, _⟩ := o9.ints.val; subst hv9; have BP9 := BP7.block (g9.block _ (by omega) (fun e => by have := NV.out _ e.symm; have := HS5.out; omega)); have z9 := BP9.free 1; have q9 := BP9.cell (j := 1) rfl; have u9 := BP9.lt; have E9 : Ext w1 w9 := hE7.only g9 (fun z hz => by have := NV.out z hz; have := HS5.out; have := HS34.out; omega); have x9r_0 := E9.cell kr_0; have x9r_1 := E9.cell kr_1; have x9r_2 := E9.cell kr_2; have x9a_0 := E9.cell ka_0; have x9a_1 := E9.cell ka_1; have x9a_2 := E9.cell ka_2; have x9z := (h1.trans E9).cell hczw
        refine hKc.out _ _ ?_ (fun hHeld => ?_) <;> clear hKc Kc
        · (first | (with_reducible exact ⟨D0.cell j6r_0, D0.cell j6r_1, D0.cell j6r_2, D0.cell j6a_0, D0.cell j6a_1, D0.cell j6a_2, D0.cell hcz⟩) | (with_reducible exact ⟨x7r_0, x7r_1, x7r_2, x7a_0, x7a_1, x7a_2, x7z⟩) | (with_reducible exact ⟨((Ext.refl w7).alloc _).cell x7r_0, ((Ext.refl w7).alloc _).cell x7r_1, ((Ext.refl w7).alloc _).cell x7r_2, ((Ext.refl w7).alloc _).cell x7a_0, ((Ext.refl w7).alloc _).cell x7a_1, ((Ext.refl w7).alloc _).cell x7a_2, ((Ext.refl w7).alloc _).cell x7z⟩) | (with_reducible exact ⟨x9r_0, x9r_1, x9r_2, x9a_0, x9a_1, x9a_2, x9z⟩) | (with_reducible exact ⟨grown_cell (b := w4.heap.size) (grown_setCell (grown_refl _ _) _ _) hnbr x9r_0, grown_cell (b := w4.heap.size) (grown_setCell (grown_refl _ _) _ _) hnbr x9r_1, grown_cell (b := w4.heap.size) (grown_setCell (grown_refl _ _) _ _) hnbr x9r_2, grown_cell (b := w4.heap.size) (grown_setCell (grown_refl _ _) _ _) hnba x9a_0, grown_cell (b := w4.heap.size) (grown_setCell (grown_refl _ _) _ _) hnba x9a_1, grown_cell (b := w4.heap.size) (grown_setCell (grown_refl _ _) _ _) hnba x9a_2, grown_cell (b := w4.heap.size) (grown_setCell (grown_refl _ _) _ _) hnbz x9z⟩))
        refine wpAnyH_take (i := 11) (v := ?_) rfl (by kernel_rfl) (by kernel_rfl) (by kernel_rfl) (fun _ _ _ h => h) (Or.inl ⟨by rfl, ?_⟩) (by assumption) ?_
        rotate_left
        · intro w hSw; (try dsimp only at hSw); go_simp; (try with_reducible rfl)
        (try go_simp)
        refine wpAnyH_ready (rs := [12]) (by kernel_rfl) (by simp) ?_
        refine AllReadyH.cons rfl (fun Kc hKc => ?_) AllReadyH.nil
        go_simp
        refine hKc.out _ _ ?_ (fun hHeld => ?_) <;> clear hKc Kc
        · (first | (with_reducible exact ⟨D0.cell j6r_0, D0.cell j6r_1, D0.cell j6r_2, D0.cell j6a_0, D0.cell j6a_1, D0.cell j6a_2, D0.cell hcz⟩) | (with_reducible exact ⟨x7r_0, x7r_1, x7r_2, x7a_0, x7a_1, x7a_2, x7z⟩) | (with_reducible exact ⟨((Ext.refl w7).alloc _).cell x7r_0, ((Ext.refl w7).alloc _).cell x7r_1, ((Ext.refl w7).alloc _).cell x7r_2, ((Ext.refl w7).alloc _).cell x7a_0, ((Ext.refl w7).alloc _).cell x7a_1, ((Ext.refl w7).alloc _).cell x7a_2, ((Ext.refl w7).alloc _).cell x7z⟩) | (with_reducible exact ⟨x9r_0, x9r_1, x9r_2, x9a_0, x9a_1, x9a_2, x9z⟩) | (with_reducible exact ⟨grown_cell (b := w4.heap.size) (grown_setCell (grown_refl _ _) _ _) hnbr x9r_0, grown_cell (b := w4.heap.size) (grown_setCell (grown_refl _ _) _ _) hnbr x9r_1, grown_cell (b := w4.heap.size) (grown_setCell (grown_refl _ _) _ _) hnbr x9r_2, grown_cell (b := w4.heap.size) (grown_setCell (grown_refl _ _) _ _) hnba x9a_0, grown_cell (b := w4.heap.size) (grown_setCell (grown_refl _ _) _ _) hnba x9a_1, grown_cell (b := w4.heap.size) (grown_setCell (grown_refl _ _) _ _) hnba x9a_2, grown_cell (b := w4.heap.size) (grown_setCell (grown_refl _ _) _ _) hnbz x9z⟩))
        refine wpAnyH_done (by kernel_rfl) ?_ _
        rw [List.length_append] at o9
        obtain ⟨v9, hvv9⟩ : ∃ v : Value, .slice a9 (V.length + [dm m].length) c9 = v := ⟨_, rfl⟩
        have hvv9' : Value.slice a9 (V.length + 1) c9 = v9 := hvv9
        rw [hvv9] at o9
        rw [hvv9']
        have oMc := (oM7.only g9 (fun z hz e => by have := NV.out z e; have := NM.out z hz; have := HS5.out; omega)).setOther (p := ⟨w4.heap.size, 1, none⟩) (fun z hz => by have := NM.out z hz; simp only []; omega) v9
        have BPc := BP9.set 1 v9
        have oVc := o9.setBelow (p := ⟨w4.heap.size, 1, none⟩) (by have := HS5.out; simp only []; omega) v9
        have Ec : Ext w1 (w9.setCell ⟨w4.heap.size, 1, none⟩ v9) := E9.setAt HS34.out _ _
        have hszc : w5.heap.size ≤ (w9.setCell ⟨w4.heap.size, 1, none⟩ v9).heap.size := by have := g9.size; simp; omega
        obtain ⟨wx, hwx⟩ : ∃ wx, w9.setCell ⟨w4.heap.size, 1, none⟩ v9 = wx := ⟨_, rfl⟩
        rw [hwx] at oMc BPc oVc Ec hszc ⊢
        go_wp2_with fail
        go_roundw
        case rel => exact ⟨j + 1, v9, by omega, by go_num, BPc, oMc, by rw [take_snoc' HMm.out, List.map_append, HV.out]; exact oVc, Ec, hszc⟩
        case measure => simp [RowKit.intOf]; omega
      refine AllReadyH.cons rfl (fun Kc hKc => ?_) AllReadyH.nil
      go_simp; go_at_call 94
      (with_reducible refine (axisOf_any _ L _ _ m wr.drew hvr).mono ?_); rintro e7 w7 ⟨rfl, h7⟩; rw [HF.out]; have E7 : Ext wr w7 := D0.trans h7; have x7r_0 := E7.cell j6r_0; have x7r_1 := E7.cell j6r_1; have x7r_2 := E7.cell j6r_2; have x7a_0 := E7.cell j6a_0; have x7a_1 := E7.cell j6a_1; have x7a_2 := E7.cell j6a_2; have x7z := E7.cell hcz; have q7 := E7.cell qd_1; have s7 := E7.size; have oV7 := oV6.ext E7; have oM7 := oM6.ext E7; have BP7 := BP6.ext E7; have hE7 : Ext w1 w7 := hE6.trans E7; have q7a := ((Ext.refl w7).alloc (.cells #[.int .i64 (dm m)] 3)).cell q7
      (try go_simp)
      refine hKc.out _ _ ?_ (fun hHeld => ?_) <;> clear hKc Kc
      · (first | (with_reducible exact ⟨D0.cell j6r_0, D0.cell j6r_1, D0.cell j6r_2, D0.cell j6a_0, D0.cell j6a_1, D0.cell j6a_2, D0.cell hcz⟩) | (with_reducible exact ⟨x7r_0, x7r_1, x7r_2, x7a_0, x7a_1, x7a_2, x7z⟩) | (with_reducible exact ⟨((Ext.refl w7).alloc _).cell x7r_0, ((Ext.refl w7).alloc _).cell x7r_1, ((Ext.refl w7).alloc _).cell x7r_2, ((Ext.refl w7).alloc _).cell x7a_0, ((Ext.refl w7).alloc _).cell x7a_1, ((Ext.refl w7).alloc _).cell x7a_2, ((Ext.refl w7).alloc _).cell x7z⟩) | (with_reducible exact ⟨x9r_0, x9r_1, x9r_2, x9a_0, x9a_1, x9a_2, x9z⟩) | (with_reducible exact ⟨grown_cell (b := w4.heap.size) (grown_setCell (grown_refl _ _) _ _) hnbr x9r_0, grown_cell (b := w4.heap.size) (grown_setCell (grown_refl _ _) _ _) hnbr x9r_1, grown_cell (b := w4.heap.size) (grown_setCell (grown_refl _ _) _ _) hnbr x9r_2, grown_cell (b := w4.heap.size) (grown_setCell (grown_refl _ _) _ _) hnba x9a_0, grown_cell (b := w4.heap.size) (grown_setCell (grown_refl _ _) _ _) hnba x9a_1, grown_cell (b := w4.heap.size) (grown_setCell (grown_refl _ _) _ _) hnba x9a_2, grown_cell (b := w4.heap.size) (grown_setCell (grown_refl _ _) _ _) hnbz x9z⟩))
      refine wpAnyH_take (i := 7) (v := ?_) rfl (by kernel_rfl) (by kernel_rfl) (by kernel_rfl) (fun _ _ _ h => h) (Or.inl ⟨by rfl, ?_⟩) (by assumption) ?_
      rotate_left
      · intro w hSw; (try dsimp only at hSw); go_simp; (try with_reducible rfl)
      (try go_simp)
      refine wpAnyH_take (i := 8) (v := ?_) rfl (by kernel_rfl) (by kernel_rfl) (by kernel_rfl) (fun _ _ _ h => h) (Or.inl ⟨by rfl, ?_⟩) (by assumption) ?_
      rotate_left
      · intro w hSw; (try dsimp only at hSw); go_simp; (try with_reducible rfl)
      (try go_simp)
      refine wpAnyH_ready (rs := [1, 9]) (by kernel_rfl) (by simp) ?_
      refine AllReadyH.cons rfl (fun Kc hKc => ?_) ?_
      · skip
        go_simp
        refine hKc.out _ _ ?_ (fun hHeld => ?_) <;> clear hKc Kc
        · (first | (with_reducible exact ⟨D0.cell j6r_0, D0.cell j6r_1, D0.cell j6r_2, D0.cell j6a_0, D0.cell j6a_1, D0.cell j6a_2, D0.cell hcz⟩) | (with_reducible exact ⟨x7r_0, x7r_1, x7r_2, x7a_0, x7a_1, x7a_2, x7z⟩) | (with_reducible exact ⟨((Ext.refl w7).alloc _).cell x7r_0, ((Ext.refl w7).alloc _).cell x7r_1, ((Ext.refl w7).alloc _).cell x7r_2, ((Ext.refl w7).alloc _).cell x7a_0, ((Ext.refl w7).alloc _).cell x7a_1, ((Ext.refl w7).alloc _).cell x7a_2, ((Ext.refl w7).alloc _).cell x7z⟩) | (with_reducible exact ⟨x9r_0, x9r_1, x9r_2, x9a_0, x9a_1, x9a_2, x9z⟩) | (with_reducible exact ⟨grown_cell (b := w4.heap.size) (grown_setCell (grown_refl _ _) _ _) hnbr x9r_0, grown_cell (b := w4.heap.size) (grown_setCell (grown_refl _ _) _ _) hnbr x9r_1, grown_cell (b := w4.heap.size) (grown_setCell (grown_refl _ _) _ _) hnbr x9r_2, grown_cell (b := w4.heap.size) (grown_setCell (grown_refl _ _) _ _) hnba x9a_0, grown_cell (b := w4.heap.size) (grown_setCell (grown_refl _ _) _ _) hnba x9a_1, grown_cell (b := w4.heap.size) (grown_setCell (grown_refl _ _) _ _) hnba x9a_2, grown_cell (b := w4.heap.size) (grown_setCell (grown_refl _ _) _ _) hnbz x9z⟩))
        refine wpAnyH_ready (rs := [9]) (by kernel_rfl) (by simp) ?_
        refine AllReadyH.cons rfl (fun Kc hKc => ?_) AllReadyH.nil
        go_simp
        refine hKc.out _ _ ?_ (fun hHeld => ?_) <;> clear hKc Kc
        · (first | (with_reducible exact ⟨D0.cell j6r_0, D0.cell j6r_1, D0.cell j6r_2, D0.cell j6a_0, D0.cell j6a_1, D0.cell j6a_2, D0.cell hcz⟩) | (with_reducible exact ⟨x7r_0, x7r_1, x7r_2, x7a_0, x7a_1, x7a_2, x7z⟩) | (with_reducible exact ⟨((Ext.refl w7).alloc _).cell x7r_0, ((Ext.refl w7).alloc _).cell x7r_1, ((Ext.refl w7).alloc _).cell x7r_2, ((Ext.refl w7).alloc _).cell x7a_0, ((Ext.refl w7).alloc _).cell x7a_1, ((Ext.refl w7).alloc _).cell x7a_2, ((Ext.refl w7).alloc _).cell x7z⟩) | (with_reducible exact ⟨x9r_0, x9r_1, x9r_2, x9a_0, x9a_1, x9a_2, x9z⟩) | (with_reducible exact ⟨grown_cell (b := w4.heap.size) (grown_setCell (grown_refl _ _) _ _) hnbr x9r_0, grown_cell (b := w4.heap.size) (grown_setCell (grown_refl _ _) _ _) hnbr x9r_1, grown_cell (b := w4.heap.size) (grown_setCell (grown_refl _ _) _ _) hnbr x9r_2, grown_cell (b := w4.heap.size) (grown_setCell (grown_refl _ _) _ _) hnba x9a_0, grown_cell (b := w4.heap.size) (grown_setCell (grown_refl _ _) _ _) hnba x9a_1, grown_cell (b := w4.heap.size) (grown_setCell (grown_refl _ _) _ _) hnba x9a_2, grown_cell (b := w4.heap.size) (grown_setCell (grown_refl _ _) _ _) hnbz x9z⟩))
        refine wpAnyH_ready (rs := [10]) (by kernel_rfl) (by simp) ?_
        refine AllReadyH.cons rfl (fun Kc hKc => ?_) AllReadyH.nil
        refine step_app (w7.alloc (.cells #[.int .i64 (dm m)] 3)) rfl _ _ 27 rfl (.slice av V.length cv) (.slice (some ⟨w7.heap.size, 0, none⟩) 1 1) rfl rfl _ (run_push _ w7 w5.heap.size _ V (dm m) oV7 (by omega) (by omega)) ?_; rintro v9 w9 ⟨o9, g9, _⟩; obtain ⟨a9, c9, hv9, _, _⟩ := o9.ints.val; subst hv9; have BP9 := BP7.block (g9.block _ (by omega) (fun e => by have := NV.out _ e.symm; have := HS5.out; omega)); have z9 := BP9.free 1; have q9 := BP9.cell (j := 1) rfl; have u9 := BP9.lt; have E9 : Ext w1 w9 := hE7.only g9 (fun z hz => by have := NV.out z hz; have := HS5.out; have := HS34.out; omega); have x9r_0 := E9.cell kr_0; have x9r_1 := E9.cell kr_1; have x9r_2 := E9.cell kr_2; have x9a_0 := E9.cell ka_0; have x9a_1 := E9.cell ka_1; have x9a_2 := E9.cell ka_2; have x9z := (h1.trans E9).cell hczw
        refine hKc.out _ _ ?_ (fun hHeld => ?_) <;> clear hKc Kc
        · (first | (with_reducible exact ⟨D0.cell j6r_0, D0.cell j6r_1, D0.cell j6r_2, D0.cell j6a_0, D0.cell j6a_1, D0.cell j6a_2, D0.cell hcz⟩) | (with_reducible exact ⟨x7r_0, x7r_1, x7r_2, x7a_0, x7a_1, x7a_2, x7z⟩) | (with_reducible exact ⟨((Ext.refl w7).alloc _).cell x7r_0, ((Ext.refl w7).alloc _).cell x7r_1, ((Ext.refl w7).alloc _).cell x7r_2, ((Ext.refl w7).alloc _).cell x7a_0, ((Ext.refl w7).alloc _).cell x7a_1, ((Ext.refl w7).alloc _).cell x7a_2, ((Ext.refl w7).alloc _).cell x7z⟩) | (with_reducible exact ⟨x9r_0, x9r_1, x9r_2, x9a_0, x9a_1, x9a_2, x9z⟩) | (with_reducible exact ⟨grown_cell (b := w4.heap.size) (grown_setCell (grown_refl _ _) _ _) hnbr x9r_0, grown_cell (b := w4.heap.size) (grown_setCell (grown_refl _ _) _ _) hnbr x9r_1, grown_cell (b := w4.heap.size) (grown_setCell (grown_refl _ _) _ _) hnbr x9r_2, grown_cell (b := w4.heap.size) (grown_setCell (grown_refl _ _) _ _) hnba x9a_0, grown_cell (b := w4.heap.size) (grown_setCell (grown_refl _ _) _ _) hnba x9a_1, grown_cell (b := w4.heap.size) (grown_setCell (grown_refl _ _) _ _) hnba x9a_2, grown_cell (b := w4.heap.size) (grown_setCell (grown_refl _ _) _ _) hnbz x9z⟩))
        refine wpAnyH_take (i := 11) (v := ?_) rfl (by kernel_rfl) (by kernel_rfl) (by kernel_rfl) (fun _ _ _ h => h) (Or.inl ⟨by rfl, ?_⟩) (by assumption) ?_
        rotate_left
        · intro w hSw; (try dsimp only at hSw); go_simp; (try with_reducible rfl)
        (try go_simp)
        refine wpAnyH_ready (rs := [12]) (by kernel_rfl) (by simp) ?_
        refine AllReadyH.cons rfl (fun Kc hKc => ?_) AllReadyH.nil
        go_simp
        refine hKc.out _ _ ?_ (fun hHeld => ?_) <;> clear hKc Kc
        · (first | (with_reducible exact ⟨D0.cell j6r_0, D0.cell j6r_1, D0.cell j6r_2, D0.cell j6a_0, D0.cell j6a_1, D0.cell j6a_2, D0.cell hcz⟩) | (with_reducible exact ⟨x7r_0, x7r_1, x7r_2, x7a_0, x7a_1, x7a_2, x7z⟩) | (with_reducible exact ⟨((Ext.refl w7).alloc _).cell x7r_0, ((Ext.refl w7).alloc _).cell x7r_1, ((Ext.refl w7).alloc _).cell x7r_2, ((Ext.refl w7).alloc _).cell x7a_0, ((Ext.refl w7).alloc _).cell x7a_1, ((Ext.refl w7).alloc _).cell x7a_2, ((Ext.refl w7).alloc _).cell x7z⟩) | (with_reducible exact ⟨x9r_0, x9r_1, x9r_2, x9a_0, x9a_1, x9a_2, x9z⟩) | (with_reducible exact ⟨grown_cell (b := w4.heap.size) (grown_setCell (grown_refl _ _) _ _) hnbr x9r_0, grown_cell (b := w4.heap.size) (grown_setCell (grown_refl _ _) _ _) hnbr x9r_1, grown_cell (b := w4.heap.size) (grown_setCell (grown_refl _ _) _ _) hnbr x9r_2, grown_cell (b := w4.heap.size) (grown_setCell (grown_refl _ _) _ _) hnba x9a_0, grown_cell (b := w4.heap.size) (grown_setCell (grown_refl _ _) _ _) hnba x9a_1, grown_cell (b := w4.heap.size) (grown_setCell (grown_refl _ _) _ _) hnba x9a_2, grown_cell (b := w4.heap.size) (grown_setCell (grown_refl _ _) _ _) hnbz x9z⟩))
        refine wpAnyH_done (by kernel_rfl) ?_ _
        rw [List.length_append] at o9
        obtain ⟨v9, hvv9⟩ : ∃ v : Value, .slice a9 (V.length + [dm m].length) c9 = v := ⟨_, rfl⟩
        have hvv9' : Value.slice a9 (V.length + 1) c9 = v9 := hvv9
        rw [hvv9] at o9
        rw [hvv9']
        have oMc := (oM7.only g9 (fun z hz e => by have := NV.out z e; have := NM.out z hz; have := HS5.out; omega)).setOther (p := ⟨w4.heap.size, 1, none⟩) (fun z hz => by have := NM.out z hz; simp only []; omega) v9
        have BPc := BP9.set 1 v9
        have oVc := o9.setBelow (p := ⟨w4.heap.size, 1, none⟩) (by have := HS5.out; simp only []; omega) v9
        have Ec : Ext w1 (w9.setCell ⟨w4.heap.size, 1, none⟩ v9) := E9.setAt HS34.out _ _
        have hszc : w5.heap.size ≤ (w9.setCell ⟨w4.heap.size, 1, none⟩ v9).heap.size := by have := g9.size; simp; omega
        obtain ⟨wx, hwx⟩ : ∃ wx, w9.setCell ⟨w4.heap.size, 1, none⟩ v9 = wx := ⟨_, rfl⟩
        rw [hwx] at oMc BPc oVc Ec hszc ⊢
        go_wp2_with fail
        go_roundw
        case rel => exact ⟨j + 1, v9, by omega, by go_num, BPc, oMc, by rw [take_snoc' HMm.out, List.map_append, HV.out]; exact oVc, Ec, hszc⟩
        case measure => simp [RowKit.intOf]; omega
      refine AllReadyH.cons rfl (fun Kc hKc => ?_) AllReadyH.nil
      go_simp
      refine hKc.out _ _ ?_ (fun hHeld => ?_) <;> clear hKc Kc
      · (first | (with_reducible exact ⟨D0.cell j6r_0, D0.cell j6r_1, D0.cell j6r_2, D0.cell j6a_0, D0.cell j6a_1, D0.cell j6a_2, D0.cell hcz⟩) | (with_reducible exact ⟨x7r_0, x7r_1, x7r_2, x7a_0, x7a_1, x7a_2, x7z⟩) | (with_reducible exact ⟨((Ext.refl w7).alloc _).cell x7r_0, ((Ext.refl w7).alloc _).cell x7r_1, ((Ext.refl w7).alloc _).cell x7r_2, ((Ext.refl w7).alloc _).cell x7a_0, ((Ext.refl w7).alloc _).cell x7a_1, ((Ext.refl w7).alloc _).cell x7a_2, ((Ext.refl w7).alloc _).cell x7z⟩) | (with_reducible exact ⟨x9r_0, x9r_1, x9r_2, x9a_0, x9a_1, x9a_2, x9z⟩) | (with_reducible exact ⟨grown_cell (b := w4.heap.size) (grown_setCell (grown_refl _ _) _ _) hnbr x9r_0, grown_cell (b := w4.heap.size) (grown_setCell (grown_refl _ _) _ _) hnbr x9r_1, grown_cell (b := w4.heap.size) (grown_setCell (grown_refl _ _) _ _) hnbr x9r_2, grown_cell (b := w4.heap.size) (grown_setCell (grown_refl _ _) _ _) hnba x9a_0, grown_cell (b := w4.heap.size) (grown_setCell (grown_refl _ _) _ _) hnba x9a_1, grown_cell (b := w4.heap.size) (grown_setCell (grown_refl _ _) _ _) hnba x9a_2, grown_cell (b := w4.heap.size) (grown_setCell (grown_refl _ _) _ _) hnbz x9z⟩))
      refine wpAnyH_ready (rs := [1]) (by kernel_rfl) (by simp) ?_
      refine AllReadyH.cons rfl (fun Kc hKc => ?_) AllReadyH.nil
      go_simp
      refine hKc.out _ _ ?_ (fun hHeld => ?_) <;> clear hKc Kc
      · (first | (with_reducible exact ⟨D0.cell j6r_0, D0.cell j6r_1, D0.cell j6r_2, D0.cell j6a_0, D0.cell j6a_1, D0.cell j6a_2, D0.cell hcz⟩) | (with_reducible exact ⟨x7r_0, x7r_1, x7r_2, x7a_0, x7a_1, x7a_2, x7z⟩) | (with_reducible exact ⟨((Ext.refl w7).alloc _).cell x7r_0, ((Ext.refl w7).alloc _).cell x7r_1, ((Ext.refl w7).alloc _).cell x7r_2, ((Ext.refl w7).alloc _).cell x7a_0, ((Ext.refl w7).alloc _).cell x7a_1, ((Ext.refl w7).alloc _).cell x7a_2, ((Ext.refl w7).alloc _).cell x7z⟩) | (with_reducible exact ⟨x9r_0, x9r_1, x9r_2, x9a_0, x9a_1, x9a_2, x9z⟩) | (with_reducible exact ⟨grown_cell (b := w4.heap.size) (grown_setCell (grown_refl _ _) _ _) hnbr x9r_0, grown_cell (b := w4.heap.size) (grown_setCell (grown_refl _ _) _ _) hnbr x9r_1, grown_cell (b := w4.heap.size) (grown_setCell (grown_refl _ _) _ _) hnbr x9r_2, grown_cell (b := w4.heap.size) (grown_setCell (grown_refl _ _) _ _) hnba x9a_0, grown_cell (b := w4.heap.size) (grown_setCell (grown_refl _ _) _ _) hnba x9a_1, grown_cell (b := w4.heap.size) (grown_setCell (grown_refl _ _) _ _) hnba x9a_2, grown_cell (b := w4.heap.size) (grown_setCell (grown_refl _ _) _ _) hnbz x9z⟩))
      refine wpAnyH_ready (rs := [10]) (by kernel_rfl) (by simp) ?_
      refine AllReadyH.cons rfl (fun Kc hKc => ?_) AllReadyH.nil
      refine step_app (w7.alloc (.cells #[.int .i64 (dm m)] 3)) rfl _ _ 27 rfl (.slice av V.length cv) (.slice (some ⟨w7.heap.size, 0, none⟩) 1 1) rfl rfl _ (run_push _ w7 w5.heap.size _ V (dm m) oV7 (by omega) (by omega)) ?_; rintro v9 w9 ⟨o9, g9, _⟩; obtain ⟨a9, c9, hv9, _, _⟩ := o9.ints.val; subst hv9; have BP9 := BP7.block (g9.block _ (by omega) (fun e => by have := NV.out _ e.symm; have := HS5.out; omega)); have z9 := BP9.free 1; have q9 := BP9.cell (j := 1) rfl; have u9 := BP9.lt; have E9 : Ext w1 w9 := hE7.only g9 (fun z hz => by have := NV.out z hz; have := HS5.out; have := HS34.out; omega); have x9r_0 := E9.cell kr_0; have x9r_1 := E9.cell kr_1; have x9r_2 := E9.cell kr_2; have x9a_0 := E9.cell ka_0; have x9a_1 := E9.cell ka_1; have x9a_2 := E9.cell ka_2; have x9z := (h1.trans E9).cell hczw
      refine hKc.out _ _ ?_ (fun hHeld => ?_) <;> clear hKc Kc
      · (first | (with_reducible exact ⟨D0.cell j6r_0, D0.cell j6r_1, D0.cell j6r_2, D0.cell j6a_0, D0.cell j6a_1, D0.cell j6a_2, D0.cell hcz⟩) | (with_reducible exact ⟨x7r_0, x7r_1, x7r_2, x7a_0, x7a_1, x7a_2, x7z⟩) | (with_reducible exact ⟨((Ext.refl w7).alloc _).cell x7r_0, ((Ext.refl w7).alloc _).cell x7r_1, ((Ext.refl w7).alloc _).cell x7r_2, ((Ext.refl w7).alloc _).cell x7a_0, ((Ext.refl w7).alloc _).cell x7a_1, ((Ext.refl w7).alloc _).cell x7a_2, ((Ext.refl w7).alloc _).cell x7z⟩) | (with_reducible exact ⟨x9r_0, x9r_1, x9r_2, x9a_0, x9a_1, x9a_2, x9z⟩) | (with_reducible exact ⟨grown_cell (b := w4.heap.size) (grown_setCell (grown_refl _ _) _ _) hnbr x9r_0, grown_cell (b := w4.heap.size) (grown_setCell (grown_refl _ _) _ _) hnbr x9r_1, grown_cell (b := w4.heap.size) (grown_setCell (grown_refl _ _) _ _) hnbr x9r_2, grown_cell (b := w4.heap.size) (grown_setCell (grown_refl _ _) _ _) hnba x9a_0, grown_cell (b := w4.heap.size) (grown_setCell (grown_refl _ _) _ _) hnba x9a_1, grown_cell (b := w4.heap.size) (grown_setCell (grown_refl _ _) _ _) hnba x9a_2, grown_cell (b := w4.heap.size) (grown_setCell (grown_refl _ _) _ _) hnbz x9z⟩))
      refine wpAnyH_take (i := 11) (v := ?_) rfl (by kernel_rfl) (by kernel_rfl) (by kernel_rfl) (fun _ _ _ h => h) (Or.inl ⟨by rfl, ?_⟩) (by assumption) ?_
      rotate_left
      · intro w hSw; (try dsimp only at hSw); go_simp; (try with_reducible rfl)
      (try go_simp)
      refine wpAnyH_ready (rs := [12]) (by kernel_rfl) (by simp) ?_
      refine AllReadyH.cons rfl (fun Kc hKc => ?_) AllReadyH.nil
      go_simp
      refine hKc.out _ _ ?_ (fun hHeld => ?_) <;> clear hKc Kc
      · (first | (with_reducible exact ⟨D0.cell j6r_0, D0.cell j6r_1, D0.cell j6r_2, D0.cell j6a_0, D0.cell j6a_1, D0.cell j6a_2, D0.cell hcz⟩) | (with_reducible exact ⟨x7r_0, x7r_1, x7r_2, x7a_0, x7a_1, x7a_2, x7z⟩) | (with_reducible exact ⟨((Ext.refl w7).alloc _).cell x7r_0, ((Ext.refl w7).alloc _).cell x7r_1, ((Ext.refl w7).alloc _).cell x7r_2, ((Ext.refl w7).alloc _).cell x7a_0, ((Ext.refl w7).alloc _).cell x7a_1, ((Ext.refl w7).alloc _).cell x7a_2, ((Ext.refl w7).alloc _).cell x7z⟩) | (with_reducible exact ⟨x9r_0, x9r_1, x9r_2, x9a_0, x9a_1, x9a_2, x9z⟩) | (with_reducible exact ⟨grown_cell (b := w4.heap.size) (grown_setCell (grown_refl _ _) _ _) hnbr x9r_0, grown_cell (b := w4.heap.size) (grown_setCell (grown_refl _ _) _ _) hnbr x9r_1, grown_cell (b := w4.heap.size) (grown_setCell (grown_refl _ _) _ _) hnbr x9r_2, grown_cell (b := w4.heap.size) (grown_setCell (grown_refl _ _) _ _) hnba x9a_0, grown_cell (b := w4.heap.size) (grown_setCell (grown_refl _ _) _ _) hnba x9a_1, grown_cell (b := w4.heap.size) (grown_setCell (grown_refl _ _) _ _) hnba x9a_2, grown_cell (b := w4.heap.size) (grown_setCell (grown_refl _ _) _ _) hnbz x9z⟩))
      refine wpAnyH_done (by kernel_rfl) ?_ _
      rw [List.length_append] at o9
      obtain ⟨v9, hvv9⟩ : ∃ v : Value, .slice a9 (V.length + [dm m].length) c9 = v := ⟨_, rfl⟩
      have hvv9' : Value.slice a9 (V.length + 1) c9 = v9 := hvv9
      rw [hvv9] at o9
      rw [hvv9']
      have oMc := (oM7.only g9 (fun z hz e => by have := NV.out z e; have := NM.out z hz; have := HS5.out; omega)).setOther (p := ⟨w4.heap.size, 1, none⟩) (fun z hz => by have := NM.out z hz; simp only []; omega) v9
      have BPc := BP9.set 1 v9
      have oVc := o9.setBelow (p := ⟨w4.heap.size, 1, none⟩) (by have := HS5.out; simp only []; omega) v9
      have Ec : Ext w1 (w9.setCell ⟨w4.heap.size, 1, none⟩ v9) := E9.setAt HS34.out _ _
      have hszc : w5.heap.size ≤ (w9.setCell ⟨w4.heap.size, 1, none⟩ v9).heap.size := by have := g9.size; simp; omega
      obtain ⟨wx, hwx⟩ : ∃ wx, w9.setCell ⟨w4.heap.size, 1, none⟩ v9 = wx := ⟨_, rfl⟩
      rw [hwx] at oMc BPc oVc Ec hszc ⊢
      go_wp2_with fail
      go_roundw
      case rel => exact ⟨j + 1, v9, by omega, by go_num, BPc, oMc, by rw [take_snoc' HMm.out, List.map_append, HV.out]; exact oVc, Ec, hszc⟩
      case measure => simp [RowKit.intOf]; omega
    · have : j = M.length := by omega
      subst this
      have hV2 := HV.out; rw [List.take_length] at hV2; subst hV2
      have HO := Lib.hid oV6; clear oV6
      simp only [List.length_map] at HO NV qd_1 BP6 ⊢
      have NDs : Hid (∀ q, (Value.slice av M.length cv).ownBlock = some q → w5.heap.size ≤ q ∧ q < wr.heap.size) := NV
      go_wp2_with fail
      refine (stridesOf_any _ _ L (L.map dm) (flat xs) M _ (ha0.ext E06) oM6.ints (by simp) HT.out.ax.dims (by have := HT.out.ax.size; omega) (by omega)).mono ?_; rintro e7 w7 ⟨v7, rfl, oS, h7⟩
      obtain ⟨aS, cS, rfl⟩ : ∃ a c, v7 = .slice a M.length c := by obtain ⟨a, c, rfl, _, _⟩ := oS.ints.val; exact ⟨a, c, by simp⟩
      have E7 : Ext w1 w7 := hE6.trans h7
      have hs7 := h7.size
      clear j6r_0 j6r_1 j6r_2 j6a_0 j6a_1 j6a_2 l6r l6a l6z
      have B7r := Br.ext E7
      have B7a := Ba.ext E7
      have B7z := Bz.ext E7
      have j7r_0 := B7r.cell (j := 0) rfl
      have j7r_1 := B7r.cell (j := 1) rfl
      have j7r_2 := B7r.cell (j := 2) rfl
      have j7a_0 := B7a.cell (j := 0) rfl
      have j7a_1 := B7a.cell (j := 1) rfl
      have j7a_2 := B7a.cell (j := 2) rfl
      have l7r := B7r.lt
      have l7a := B7a.lt
      have l7z := B7z.lt
      have BP7 := BP6.ext h7
      have qe_0 := BP7.cell (j := 0) rfl
      have qe_1 := BP7.cell (j := 1) rfl
      have qe_2 := BP7.cell (j := 2) rfl
      have lqe := BP7.lt
      clear qd_0 qd_1 qd_2
      have NS : Hid (∀ q, (Value.slice aS M.length cS).ownBlock = some q → wr.heap.size ≤ q ∧ q < w7.heap.size) := Lib.hid fun q hq => oS.block_lt hq
      go_wp2_with fail
      refine (stridesOf_any _ _ L (L.map dm) (flat xs) [c] _ ((ha0.ext (h1.trans E7)).ext ((Ext.refl _).alloc _)) (IntS.one w7 c) (by simp) HT.out.ax.dims (by have := HT.out.ax.size; omega) (by simp)).mono ?_; rintro e8 w8 ⟨v8, rfl, o8, h8⟩
      obtain ⟨a8, c8, rfl⟩ : ∃ a c, v8 = .slice a 1 c := by obtain ⟨a, c, rfl, _, _⟩ := o8.ints.val; exact ⟨a, c, by simp⟩
      obtain ⟨b8, f8, y8, h88, hc8, hy8, _⟩ := o8.ints.get (i := 0) (by simp)
      cases h88
      rw [Nat.add_zero] at hc8
      obtain ⟨st, hst⟩ : ∃ st, stride L (L.map dm) c = st := ⟨_, rfl⟩
      obtain rfl : y8 = stride L (L.map dm) c := by simpa using hy8.symm
      have E78 : Ext w7 w8 := ((Ext.refl _).alloc _).trans h8
      have E8 : Ext w1 w8 := E7.trans E78
      have hs8 : w7.heap.size + 1 ≤ w8.heap.size := by have := h8.size; simp at this; omega
      clear j7r_0 j7r_1 j7r_2 j7a_0 j7a_1 j7a_2 l7r l7a l7z
      have B8r := Br.ext E8
      have B8a := Ba.ext E8
      have B8z := Bz.ext E8
      have j8r_0 := B8r.cell (j := 0) rfl
      have j8r_1 := B8r.cell (j := 1) rfl
      have j8r_2 := B8r.cell (j := 2) rfl
      have j8a_0 := B8a.cell (j := 0) rfl
      have j8a_1 := B8a.cell (j := 1) rfl
      have j8a_2 := B8a.cell (j := 2) rfl
      have l8r := B8r.lt
      have l8a := B8a.lt
      have l8z := B8z.lt
      have BP8 := BP7.ext E78
      clear qe_0 qe_1 qe_2
      have qf_0 := BP8.cell (j := 0) rfl
      have qf_1 := BP8.cell (j := 1) rfl
      have qf_2 := BP8.cell (j := 2) rfl
      have lqf := BP8.lt
      have hsz78 := hs8
      have oM8 := (oM6.ext h7).ext E78
      have oD8 := ((HO.out.mono (B' := w1.heap.size) (by have := HS34.out; have := HS5.out; omega)).ext h7).ext E78
      have oS8 := (oS.mono (B' := w1.heap.size) hE6.size).ext E78
      clear oS oM6 HO
      have HWR : Hid (w5.heap.size ≤ wr.heap.size ∧ wr.heap.size ≤ w7.heap.size ∧ w7.heap.size + 1 ≤ w8.heap.size) := Lib.hid ⟨hs6, hs7, hs8⟩
      obtain ⟨st, hst⟩ : ∃ st, stride L (L.map dm) c = st := ⟨_, rfl⟩
      rw [hst] at hst0 hst9 hc8
      have HST := Lib.hid hst; clear hst hy8 hs6 hs7 hs8 hsz78
      obtain ⟨S0, hS0⟩ : ∃ S0, v * st = S0 := ⟨_, rfl⟩
      have hS00 : 0 ≤ S0 := by rw [← hS0]; exact Int.mul_nonneg v0 hst0
      have hvd : v < 8 := by have := (HT.out.uni.dim (HT.out.sub.sub c hcL)).2; omega
      have hS09 : S0 ≤ 32768 := by rw [← hS0]; have h1 : v * st ≤ 8 * st := Int.mul_le_mul_of_nonneg_right (by omega) hst0; omega
      have HS0 := Lib.hid hS0
      have hwr : IntKind.i64.wrap (v * st) = S0 := by rw [IntKind.wrap_i64, HS0.out]; omega
      clear hS0
      go_wp2_with fail
      generalize hW9 : w8.alloc (.cells (madeCells #[.int .i64 0] M.length) 3) = wi
      have h9 : Ext w8 wi := by rw [← hW9]; exact (Ext.refl _).alloc _
      have oI9 : OwnI wi w1.heap.size (.slice (some ⟨w8.heap.size, 0, none⟩) M.length M.length) (List.replicate M.length 0) := by rw [← hW9]; exact OwnI.zeros w8 _ _ _ rfl E8.size (by omega)
      have HS9 : Hid (wi.heap.size = w8.heap.size + 1) := Lib.hid (by rw [← hW9]; simp)
      clear hW9
      obtain ⟨bI, hbI⟩ : ∃ bI, w8.heap.size = bI := ⟨_, rfl⟩
      rw [hbI] at oI9 HS9 ⊢
      have HBI : Hid (w4.heap.size < bI ∧ w5.heap.size ≤ bI ∧ w1.heap.size ≤ bI) := Lib.hid (by have := HWR.out; have := HS5.out; have := HS34.out; omega)
      have NMi : Hid (∀ q, (Value.slice aM M.length cM).ownBlock = some q → q < bI ∧ q ≠ w4.heap.size) := Lib.hid fun q hq => by have := NM.out q hq; have := HBI.out; omega
      have NDi : Hid (∀ q, (Value.slice av M.length cv).ownBlock = some q → q < bI ∧ q ≠ w4.heap.size) := Lib.hid fun q hq => by have := NDs.out q hq; have := HWR.out; have := HS5.out; have := hbI; omega
      have NSi : Hid (∀ q, (Value.slice aS M.length cS).ownBlock = some q → q < bI ∧ q ≠ w4.heap.size) := Lib.hid fun q hq => by have := NS.out q hq; have := HWR.out; have := HS5.out; have := hbI; omega
      have NDM : Hid (∀ q, (Value.slice aM M.length cM).ownBlock = some q → (Value.slice av M.length cv).ownBlock ≠ some q) := Lib.hid fun q hq e => by have := NM.out q hq; have := NDs.out q e; have := HS5.out; omega
      have E9 : Ext w1 wi := E8.trans h9
      have BP9 := BP8.ext h9
      have oM9 := oM8.ext h9
      have oD9 := oD8.ext h9
      have oS9 := oS8.ext h9
      clear j8r_0 j8r_1 j8r_2 j8a_0 j8a_1 j8a_2 l8r l8a l8z
      clear qf_0 qf_1 qf_2
      clear hbI oM8 oD8 oS8
      go_loopg [] Z (fun g wr => ∃ (o : Nat) (vd : Value), Hid (g + o = Z) ∧ o < Z ∧ Blk wr w4.heap.size 32 [.slice aM M.length cM, .slice av M.length cv, vd] ∧ OwnI wr w1.heap.size (.slice aM M.length cM) M ∧ OwnI wr w1.heap.size (.slice av M.length cv) (M.map dm) ∧ OwnI wr w1.heap.size (.slice aS M.length cS) (M.map (stride L (L.map dm))) ∧ OwnI wr w1.heap.size (.slice (some ⟨bI, 0, none⟩) M.length M.length) (M.map (asg (axs dm M) o σ0)) ∧ OwnI wr wi.heap.size vd (flat (Ys.take o)) ∧ Ext w1 wr ∧ wi.heap.size ≤ wr.heap.size)
      case atStart => exact ⟨0, _, Lib.hid (by omega), by omega, BP9, oM9, oD9, oS9, by rw [asg_zero HT.out.uni sM.out]; exact oI9, OwnI.nil _ _, E9, Nat.le_refl _⟩
      case round =>
        obtain ⟨o, vd, hg, ho, BPr, oMr, oDr, oSr, oIr, oYr, hEr, hsr⟩ := hrel
        clear oM9 oD9 oS9 oI9 BP9
        have Brr := Br.ext hEr
        have Bra := Ba.ext hEr
        have Brz := Bz.ext hEr
        have jrr_0 := Brr.cell (j := 0) rfl
        have jrr_1 := Brr.cell (j := 1) rfl
        have jrr_2 := Brr.cell (j := 2) rfl
        have jra_0 := Bra.cell (j := 0) rfl
        have jra_1 := Bra.cell (j := 1) rfl
        have jra_2 := Bra.cell (j := 2) rfl
        have lrr := Brr.lt
        have lra := Bra.lt
        have lrz := Brz.lt
        have q2 := BPr.cell (j := 2) rfl
        have ql := BPr.lt
        obtain ⟨Y, hY⟩ : ∃ Y, flat (Ys.take o) = Y := ⟨_, rfl⟩
        obtain ⟨q, X1, hq1, hq2, hq3, hq4, hq5⟩ := HStep.out o ho
        rw [hY] at oYr hq5
        obtain ⟨ay, cy, rfl, _, _⟩ := oYr.ints.val
        have hYl2 : Y.length ≤ 4096 * 6 := by rw [← hY, flat_length HWW.out, List.length_take, HYl.out]; exact Nat.mul_le_mul (by omega) hW6
        have hgl : X1.length = W := by rw [← hq3]; exact getL_length hq2
        obtain ⟨dd, hdd⟩ : ∃ dd, dotL (M.map (stride L (L.map dm))) (M.map (asg (axs dm M) o σ0)) = dd := ⟨_, rfl⟩
        have HDD := Lib.hid hdd
        rw [hdd] at hq1
        have hP0 : Hid (∀ z ∈ M.map (stride L (L.map dm)), 0 ≤ z) := Lib.hid (stride_pos HT.out.uni HT.out.sub)
        have hP1 : Hid (∀ z ∈ M.map (asg (axs dm M) o σ0), 0 ≤ z) := Lib.hid fun z hz => (asg_pos HT.out.uni sM.out o z hz).1
        rw [HST.out, HS0.out] at hq1
        have hq0 : 0 ≤ (S0 + dd) := by omega
        have hq9 : (S0 + dd) ≤ 1048576 := by omega
        have HQW : Hid ((S0 + dd) * (W : Int) = ((q * W : Nat) : Int)) := Lib.hid (by rw [hq1]; simp)
        have hdd9 : dd ≤ 1048576 := by omega
        have hws : IntKind.i64.wrap (S0 + dd) = S0 + dd := by rw [IntKind.wrap_i64]; omega
        have HQ2 := Lib.hid hq2; have HXX := Lib.hid hq3; have HX5 := Lib.hid hq5; have HGL := Lib.hid hgl
        clear hY hq1 hq2 hq3 hq4 hq5 hgl hdd
        have D0 : Ext wr wr.drew := (Ext.refl _).drew
        have hsI := oIr.ints.ext D0
        have hsS := oSr.ints.ext D0
        have hsX := haX.ext (h1.trans hEr)
        have NY : Hid (∀ q, (Value.slice ay Y.length cy).ownBlock = some q → wi.heap.size ≤ q ∧ q < wr.heap.size) := Lib.hid fun q hq => oYr.block_lt hq
        have kr_0 := Br.cell (j := 0) rfl
        have kr_1 := Br.cell (j := 1) rfl
        have kr_2 := Br.cell (j := 2) rfl
        have ka_0 := Ba.cell (j := 0) rfl
        have ka_1 := Ba.cell (j := 1) rfl
        have ka_2 := Ba.cell (j := 2) rfl
        have hnbr : w.heap.size ≠ w4.heap.size := by have := HS34.out; have := HS1.out; omega
        have hnba : w.heap.size + 1 ≠ w4.heap.size := by have := HS34.out; have := HS1.out; omega
        have h49 : w4.heap.size < wi.heap.size ∧ w1.heap.size ≤ wi.heap.size := by have := HBI.out; have := HS9.out; omega
        obtain ⟨h49a, h49b⟩ := h49
        obtain ⟨x, hxX⟩ : ∃ x, X1 = x := ⟨_, rfl⟩
        subst hxX
        have oD := oYr
        have hE6 := hEr
        go_upto_region 15 with fail
        go_cut [] from 82 to 93 (fun wx => ∃ v9 w8 w9, Ext wr w8 ∧ w8.grownBy w9 (Value.slice ay Y.length cy).ownBlock ∧ OwnI w9 wi.heap.size v9 (Y ++ X1) ∧ Blk w9 w4.heap.size 32 [.slice aM M.length cM, .slice av M.length cv, .slice ay Y.length cy] ∧ wx = w9.setCell ⟨w4.heap.size, 2, none⟩ v9)
        case first =>
          refine wp_region_held_drew (S := fun w' => w'.cell? ⟨w.heap.size, 0, none⟩ = some (.int .i64 k) ∧ w'.cell? ⟨w.heap.size, 1, none⟩ = some (.int .i64 p) ∧ w'.cell? ⟨w.heap.size, 2, none⟩ = some (.int .i64 n) ∧ w'.cell? ⟨w.heap.size + 1, 0, none⟩ = some (.slice ap1 L.length ac1) ∧ w'.cell? ⟨w.heap.size + 1, 1, none⟩ = some (.slice (some ⟨bC, oC, none⟩) L.length ac2) ∧ w'.cell? ⟨w.heap.size + 1, 2, none⟩ = some (.slice (some ⟨bA, oA, none⟩) (flat xs).length ac3)) (by kernel_rfl) ?_ (fun hHeld => ?_)
          · (first | (with_reducible exact ⟨D0.cell jrr_0, D0.cell jrr_1, D0.cell jrr_2, D0.cell jra_0, D0.cell jra_1, D0.cell jra_2⟩) | (with_reducible exact ⟨r7r_0, r7r_1, r7r_2, r7a_0, r7a_1, r7a_2⟩) | (with_reducible exact ⟨r8r_0, r8r_1, r8r_2, r8a_0, r8a_1, r8a_2⟩) | (with_reducible exact ⟨r9r_0, r9r_1, r9r_2, r9a_0, r9a_1, r9a_2⟩) | (with_reducible exact ⟨grown_cell (b := w4.heap.size) (grown_setCell (grown_refl _ _) _ _) hnbr r9r_0, grown_cell (b := w4.heap.size) (grown_setCell (grown_refl _ _) _ _) hnbr r9r_1, grown_cell (b := w4.heap.size) (grown_setCell (grown_refl _ _) _ _) hnbr r9r_2, grown_cell (b := w4.heap.size) (grown_setCell (grown_refl _ _) _ _) hnba r9a_0, grown_cell (b := w4.heap.size) (grown_setCell (grown_refl _ _) _ _) hnba r9a_1, grown_cell (b := w4.heap.size) (grown_setCell (grown_refl _ _) _ _) hnba r9a_2⟩))
          refine wpAnyH_take (i := 0) (v := ?_) rfl (by kernel_rfl) (by kernel_rfl) (by kernel_rfl) (fun _ _ _ h => h) (Or.inl ⟨by rfl, ?_⟩) (by assumption) ?_
          rotate_left
          · intro w hSw; (try dsimp only at hSw); go_simp; (try with_reducible rfl)
          (try go_simp)
          refine wpAnyH_take (i := 2) (v := ?_) rfl (by kernel_rfl) (by kernel_rfl) (by kernel_rfl) (fun _ _ _ h => h) (Or.inl ⟨by rfl, ?_⟩) (by assumption) ?_
          rotate_left
          · intro w hSw; (try dsimp only at hSw); go_simp; (try with_reducible rfl)
          (try go_simp)
          refine wpAnyH_take (i := 3) (v := ?_) rfl (by kernel_rfl) (by kernel_rfl) (by kernel_rfl) (fun _ _ _ h => h) (Or.inl ⟨by rfl, ?_⟩) (by assumption) ?_
          rotate_left
          · intro w hSw; (try dsimp only at hSw); go_simp; (try with_reducible rfl)
          (try go_simp)
          refine wpAnyH_take (i := 4) (v := ?_) rfl (by kernel_rfl) (by kernel_rfl) (by kernel_rfl) (fun _ _ _ h => h) (Or.inl ⟨by rfl, ?_⟩) (by assumption) ?_
          rotate_left
          · intro w hSw; (try dsimp only at hSw); go_simp; (try with_reducible rfl)
          (try go_simp)
          refine wpAnyH_take (i := 5) (v := ?_) rfl (by kernel_rfl) (by kernel_rfl) (by kernel_rfl) (fun _ _ _ h => h) (Or.inl ⟨by rfl, ?_⟩) (by assumption) ?_
          rotate_left
          · intro w hSw; (try dsimp only at hSw); go_simp; (try with_reducible rfl)
          (try go_simp)
          refine wpAnyH_take (i := 6) (v := ?_) rfl (by kernel_rfl) (by kernel_rfl) (by kernel_rfl) (fun _ _ _ h => h) (Or.inl ⟨by rfl, ?_⟩) (by assumption) ?_
          rotate_left
          · intro w hSw; (try dsimp only at hSw); go_simp; (try with_reducible rfl)
          (try go_simp)
          refine wpAnyH_ready (rs := [1, 7]) (by kernel_rfl) (by simp) ?_
          refine AllReadyH.cons rfl (fun Kc hKc => ?_) ?_
          · skip
            go_simp
            refine hKc.out _ _ ?_ (fun hHeld => ?_) <;> clear hKc Kc
            · (first | (with_reducible exact ⟨D0.cell jrr_0, D0.cell jrr_1, D0.cell jrr_2, D0.cell jra_0, D0.cell jra_1, D0.cell jra_2⟩) | (with_reducible exact ⟨r7r_0, r7r_1, r7r_2, r7a_0, r7a_1, r7a_2⟩) | (with_reducible exact ⟨r8r_0, r8r_1, r8r_2, r8a_0, r8a_1, r8a_2⟩) | (with_reducible exact ⟨r9r_0, r9r_1, r9r_2, r9a_0, r9a_1, r9a_2⟩) | (with_reducible exact ⟨grown_cell (b := w4.heap.size) (grown_setCell (grown_refl _ _) _ _) hnbr r9r_0, grown_cell (b := w4.heap.size) (grown_setCell (grown_refl _ _) _ _) hnbr r9r_1, grown_cell (b := w4.heap.size) (grown_setCell (grown_refl _ _) _ _) hnbr r9r_2, grown_cell (b := w4.heap.size) (grown_setCell (grown_refl _ _) _ _) hnba r9a_0, grown_cell (b := w4.heap.size) (grown_setCell (grown_refl _ _) _ _) hnba r9a_1, grown_cell (b := w4.heap.size) (grown_setCell (grown_refl _ _) _ _) hnba r9a_2⟩))
            refine wpAnyH_ready (rs := [7]) (by kernel_rfl) (by simp) ?_
            refine AllReadyH.cons rfl (fun Kc hKc => ?_) AllReadyH.nil
            go_simp; go_at_call 111
            (with_reducible refine (dotOf_ext _ _ (M.map (stride L (L.map dm))) (M.map (asg (axs dm M) o σ0)) wr.drew hsS hsI (by simp) hP0.out hP1.out (by rw [HDD.out]; omega)).mono ?_); rintro e7 w7 ⟨rfl, h7⟩; rw [HDD.out]; have E7r : Ext wr w7 := D0.trans h7; have q7 := E7r.cell q2; have r7r_0 := E7r.cell jrr_0; have r7r_1 := E7r.cell jrr_1; have r7r_2 := E7r.cell jrr_2; have r7a_0 := E7r.cell jra_0; have r7a_1 := E7r.cell jra_1; have r7a_2 := E7r.cell jra_2
            (try go_simp)
            refine hKc.out _ _ ?_ (fun hHeld => ?_) <;> clear hKc Kc
            · (first | (with_reducible exact ⟨D0.cell jrr_0, D0.cell jrr_1, D0.cell jrr_2, D0.cell jra_0, D0.cell jra_1, D0.cell jra_2⟩) | (with_reducible exact ⟨r7r_0, r7r_1, r7r_2, r7a_0, r7a_1, r7a_2⟩) | (with_reducible exact ⟨r8r_0, r8r_1, r8r_2, r8a_0, r8a_1, r8a_2⟩) | (with_reducible exact ⟨r9r_0, r9r_1, r9r_2, r9a_0, r9a_1, r9a_2⟩) | (with_reducible exact ⟨grown_cell (b := w4.heap.size) (grown_setCell (grown_refl _ _) _ _) hnbr r9r_0, grown_cell (b := w4.heap.size) (grown_setCell (grown_refl _ _) _ _) hnbr r9r_1, grown_cell (b := w4.heap.size) (grown_setCell (grown_refl _ _) _ _) hnbr r9r_2, grown_cell (b := w4.heap.size) (grown_setCell (grown_refl _ _) _ _) hnba r9a_0, grown_cell (b := w4.heap.size) (grown_setCell (grown_refl _ _) _ _) hnba r9a_1, grown_cell (b := w4.heap.size) (grown_setCell (grown_refl _ _) _ _) hnba r9a_2⟩))
            refine wpAnyH_take (i := 8) (v := ?_) rfl (by kernel_rfl) (by kernel_rfl) (by kernel_rfl) (fun _ _ _ h => h) (Or.inl ⟨by rfl, ?_⟩) (by assumption) ?_
            rotate_left
            · intro w hSw; (try dsimp only at hSw); go_simp; (try with_reducible rfl)
            (try go_simp)
            refine wpAnyH_ready (rs := [9]) (by kernel_rfl) (by simp) ?_
            refine AllReadyH.cons rfl (fun Kc hKc => ?_) AllReadyH.nil
            go_simp; go_at_call 110
            (with_reducible refine (rawElem_gen k p n (S0 + dd) (q * W) W HWW.out _ _ _ _ _ _ bA oA (flat xs).length ac3 w7 HQW.out hq0 hw HQ2.out hcA hX9).mono ?_); rintro e8 w8 ⟨rfl, h8⟩; have E8 : Ext wr w8 := E7r.trans h8; have q8 := E8.cell q2; have hpart := IntS.part (hsX.ext E8) (W := W) (o := q * W) hW1' HQ2.out; rw [HXX.out] at hpart; have r8r_0 := E8.cell jrr_0; have r8r_1 := E8.cell jrr_1; have r8r_2 := E8.cell jrr_2; have r8a_0 := E8.cell jra_0; have r8a_1 := E8.cell jra_1; have r8a_2 := E8.cell jra_2
            (try go_simp)
            refine hKc.out _ _ ?_ (fun hHeld => ?_) <;> clear hKc Kc
            · (first | (with_reducible exact ⟨D0.cell jrr_0, D0.cell jrr_1, D0.cell jrr_2, D0.cell jra_0, D0.cell jra_1, D0.cell jra_2⟩) | (with_reducible exact ⟨r7r_0, r7r_1, r7r_2, r7a_0, r7a_1, r7a_2⟩) | (with_reducible exact ⟨r8r_0, r8r_1, r8r_2, r8a_0, r8a_1, r8a_2⟩) | (with_reducible exact ⟨r9r_0, r9r_1, r9r_2, r9a_0, r9a_1, r9a_2⟩) | (with_reducible exact ⟨grown_cell (b := w4.heap.size) (grown_setCell (grown_refl _ _) _ _) hnbr r9r_0, grown_cell (b := w4.heap.size) (grown_setCell (grown_refl _ _) _ _) hnbr r9r_1, grown_cell (b := w4.heap.size) (grown_setCell (grown_refl _ _) _ _) hnbr r9r_2, grown_cell (b := w4.heap.size) (grown_setCell (grown_refl _ _) _ _) hnba r9a_0, grown_cell (b := w4.heap.size) (grown_setCell (grown_refl _ _) _ _) hnba r9a_1, grown_cell (b := w4.heap.size) (grown_setCell (grown_refl _ _) _ _) hnba r9a_2⟩))
            refine wpAnyH_ready (rs := [10]) (by kernel_rfl) (by simp) ?_
            refine AllReadyH.cons rfl (fun Kc hKc => ?_) AllReadyH.nil
            refine step_app w8 rfl _ _ 27 rfl (.slice ay Y.length cy) (.slice (some ⟨bA, oA + q * W, none⟩) W (ac3 - q * W)) rfl rfl _ (run_app_ints _ w8 wi.heap.size _ _ Y X1 (oD.ext E8) hpart (by rw [HGL.out]; omega) (by have := E8.size; omega)) ?_; rintro v9 w9 ⟨o9, g9, _⟩; obtain ⟨a9, c9, hv9, _, _⟩ := o9.ints.val; subst hv9; have BP9 := (BPr.ext E8).block (g9.block _ (by have := E8.size; have := BPr.lt; omega) (fun e => by have := NY.out _ e.symm; omega)); have z9 := BP9.free 2; have q9 := BP9.cell (j := 2) rfl; have u9 := BP9.lt; have E9 : Ext w1 w9 := (hE6.trans E8).only g9 (fun z hz => by have := NY.out z hz; omega); have r9r_0 := E9.cell kr_0; have r9r_1 := E9.cell kr_1; have r9r_2 := E9.cell kr_2; have r9a_0 := E9.cell ka_0; have r9a_1 := E9.cell ka_1; have r9a_2 := E9.cell ka_2
            refine hKc.out _ _ ?_ (fun hHeld => ?_) <;> clear hKc Kc
            · (first | (with_reducible exact ⟨D0.cell jrr_0, D0.cell jrr_1, D0.cell jrr_2, D0.cell jra_0, D0.cell jra_1, D0.cell jra_2⟩) | (with_reducible exact ⟨r7r_0, r7r_1, r7r_2, r7a_0, r7a_1, r7a_2⟩) | (with_reducible exact ⟨r8r_0, r8r_1, r8r_2, r8a_0, r8a_1, r8a_2⟩) | (with_reducible exact ⟨r9r_0, r9r_1, r9r_2, r9a_0, r9a_1, r9a_2⟩) | (with_reducible exact ⟨grown_cell (b := w4.heap.size) (grown_setCell (grown_refl _ _) _ _) hnbr r9r_0, grown_cell (b := w4.heap.size) (grown_setCell (grown_refl _ _) _ _) hnbr r9r_1, grown_cell (b := w4.heap.size) (grown_setCell (grown_refl _ _) _ _) hnbr r9r_2, grown_cell (b := w4.heap.size) (grown_setCell (grown_refl _ _) _ _) hnba r9a_0, grown_cell (b := w4.heap.size) (grown_setCell (grown_refl _ _) _ _) hnba r9a_1, grown_cell (b := w4.heap.size) (grown_setCell (grown_refl _ _) _ _) hnba r9a_2⟩))
            refine wpAnyH_take (i := 11) (v := ?_) rfl (by kernel_rfl) (by kernel_rfl) (by kernel_rfl) (fun _ _ _ h => h) (Or.inl ⟨by rfl, ?_⟩) (by assumption) ?_
            rotate_left
            · intro w hSw; (try dsimp only at hSw); go_simp; (try with_reducible rfl)
            (try go_simp)
            refine wpAnyH_ready (rs := [12]) (by kernel_rfl) (by simp) ?_
            refine AllReadyH.cons rfl (fun Kc hKc => ?_) AllReadyH.nil
            go_simp
            refine hKc.out _ _ ?_ (fun hHeld => ?_) <;> clear hKc Kc
            · (first | (with_reducible exact ⟨D0.cell jrr_0, D0.cell jrr_1, D0.cell jrr_2, D0.cell jra_0, D0.cell jra_1, D0.cell jra_2⟩) | (with_reducible exact ⟨r7r_0, r7r_1, r7r_2, r7a_0, r7a_1, r7a_2⟩) | (with_reducible exact ⟨r8r_0, r8r_1, r8r_2, r8a_0, r8a_1, r8a_2⟩) | (with_reducible exact ⟨r9r_0, r9r_1, r9r_2, r9a_0, r9a_1, r9a_2⟩) | (with_reducible exact ⟨grown_cell (b := w4.heap.size) (grown_setCell (grown_refl _ _) _ _) hnbr r9r_0, grown_cell (b := w4.heap.size) (grown_setCell (grown_refl _ _) _ _) hnbr r9r_1, grown_cell (b := w4.heap.size) (grown_setCell (grown_refl _ _) _ _) hnbr r9r_2, grown_cell (b := w4.heap.size) (grown_setCell (grown_refl _ _) _ _) hnba r9a_0, grown_cell (b := w4.heap.size) (grown_setCell (grown_refl _ _) _ _) hnba r9a_1, grown_cell (b := w4.heap.size) (grown_setCell (grown_refl _ _) _ _) hnba r9a_2⟩))
            refine wpAnyH_done (by kernel_rfl) ?_ _
            go_wp2_with fail
            go_meet
            rw [List.length_append] at o9
            exact ⟨_, w8, w9, E8, g9, o9, BP9, rfl⟩
          refine AllReadyH.cons rfl (fun Kc hKc => ?_) AllReadyH.nil
          go_simp; go_at_call 111
          (with_reducible refine (dotOf_ext _ _ (M.map (stride L (L.map dm))) (M.map (asg (axs dm M) o σ0)) wr.drew hsS hsI (by simp) hP0.out hP1.out (by rw [HDD.out]; omega)).mono ?_); rintro e7 w7 ⟨rfl, h7⟩; rw [HDD.out]; have E7r : Ext wr w7 := D0.trans h7; have q7 := E7r.cell q2; have r7r_0 := E7r.cell jrr_0; have r7r_1 := E7r.cell jrr_1; have r7r_2 := E7r.cell jrr_2; have r7a_0 := E7r.cell jra_0; have r7a_1 := E7r.cell jra_1; have r7a_2 := E7r.cell jra_2
          (try go_simp)
          refine hKc.out _ _ ?_ (fun hHeld => ?_) <;> clear hKc Kc
          · (first | (with_reducible exact ⟨D0.cell jrr_0, D0.cell jrr_1, D0.cell jrr_2, D0.cell jra_0, D0.cell jra_1, D0.cell jra_2⟩) | (with_reducible exact ⟨r7r_0, r7r_1, r7r_2, r7a_0, r7a_1, r7a_2⟩) | (with_reducible exact ⟨r8r_0, r8r_1, r8r_2, r8a_0, r8a_1, r8a_2⟩) | (with_reducible exact ⟨r9r_0, r9r_1, r9r_2, r9a_0, r9a_1, r9a_2⟩) | (with_reducible exact ⟨grown_cell (b := w4.heap.size) (grown_setCell (grown_refl _ _) _ _) hnbr r9r_0, grown_cell (b := w4.heap.size) (grown_setCell (grown_refl _ _) _ _) hnbr r9r_1, grown_cell (b := w4.heap.size) (grown_setCell (grown_refl _ _) _ _) hnbr r9r_2, grown_cell (b := w4.heap.size) (grown_setCell (grown_refl _ _) _ _) hnba r9a_0, grown_cell (b := w4.heap.size) (grown_setCell (grown_refl _ _) _ _) hnba r9a_1, grown_cell (b := w4.heap.size) (grown_setCell (grown_refl _ _) _ _) hnba r9a_2⟩))
          refine wpAnyH_take (i := 8) (v := ?_) rfl (by kernel_rfl) (by kernel_rfl) (by kernel_rfl) (fun _ _ _ h => h) (Or.inl ⟨by rfl, ?_⟩) (by assumption) ?_
          rotate_left
          · intro w hSw; (try dsimp only at hSw); go_simp; (try with_reducible rfl)
          (try go_simp)
          refine wpAnyH_ready (rs := [1, 9]) (by kernel_rfl) (by simp) ?_
          refine AllReadyH.cons rfl (fun Kc hKc => ?_) ?_
          · skip
            go_simp
            refine hKc.out _ _ ?_ (fun hHeld => ?_) <;> clear hKc Kc
            · (first | (with_reducible exact ⟨D0.cell jrr_0, D0.cell jrr_1, D0.cell jrr_2, D0.cell jra_0, D0.cell jra_1, D0.cell jra_2⟩) | (with_reducible exact ⟨r7r_0, r7r_1, r7r_2, r7a_0, r7a_1, r7a_2⟩) | (with_reducible exact ⟨r8r_0, r8r_1, r8r_2, r8a_0, r8a_1, r8a_2⟩) | (with_reducible exact ⟨r9r_0, r9r_1, r9r_2, r9a_0, r9a_1, r9a_2⟩) | (with_reducible exact ⟨grown_cell (b := w4.heap.size) (grown_setCell (grown_refl _ _) _ _) hnbr r9r_0, grown_cell (b := w4.heap.size) (grown_setCell (grown_refl _ _) _ _) hnbr r9r_1, grown_cell (b := w4.heap.size) (grown_setCell (grown_refl _ _) _ _) hnbr r9r_2, grown_cell (b := w4.heap.size) (grown_setCell (grown_refl _ _) _ _) hnba r9a_0, grown_cell (b := w4.heap.size) (grown_setCell (grown_refl _ _) _ _) hnba r9a_1, grown_cell (b := w4.heap.size) (grown_setCell (grown_refl _ _) _ _) hnba r9a_2⟩))
            refine wpAnyH_ready (rs := [9]) (by kernel_rfl) (by simp) ?_
            refine AllReadyH.cons rfl (fun Kc hKc => ?_) AllReadyH.nil
            go_simp; go_at_call 110
            (with_reducible refine (rawElem_gen k p n (S0 + dd) (q * W) W HWW.out _ _ _ _ _ _ bA oA (flat xs).length ac3 w7 HQW.out hq0 hw HQ2.out hcA hX9).mono ?_); rintro e8 w8 ⟨rfl, h8⟩; have E8 : Ext wr w8 := E7r.trans h8; have q8 := E8.cell q2; have hpart := IntS.part (hsX.ext E8) (W := W) (o := q * W) hW1' HQ2.out; rw [HXX.out] at hpart; have r8r_0 := E8.cell jrr_0; have r8r_1 := E8.cell jrr_1; have r8r_2 := E8.cell jrr_2; have r8a_0 := E8.cell jra_0; have r8a_1 := E8.cell jra_1; have r8a_2 := E8.cell jra_2
            (try go_simp)
            refine hKc.out _ _ ?_ (fun hHeld => ?_) <;> clear hKc Kc
            · (first | (with_reducible exact ⟨D0.cell jrr_0, D0.cell jrr_1, D0.cell jrr_2, D0.cell jra_0, D0.cell jra_1, D0.cell jra_2⟩) | (with_reducible exact ⟨r7r_0, r7r_1, r7r_2, r7a_0, r7a_1, r7a_2⟩) | (with_reducible exact ⟨r8r_0, r8r_1, r8r_2, r8a_0, r8a_1, r8a_2⟩) | (with_reducible exact ⟨r9r_0, r9r_1, r9r_2, r9a_0, r9a_1, r9a_2⟩) | (with_reducible exact ⟨grown_cell (b := w4.heap.size) (grown_setCell (grown_refl _ _) _ _) hnbr r9r_0, grown_cell (b := w4.heap.size) (grown_setCell (grown_refl _ _) _ _) hnbr r9r_1, grown_cell (b := w4.heap.size) (grown_setCell (grown_refl _ _) _ _) hnbr r9r_2, grown_cell (b := w4.heap.size) (grown_setCell (grown_refl _ _) _ _) hnba r9a_0, grown_cell (b := w4.heap.size) (grown_setCell (grown_refl _ _) _ _) hnba r9a_1, grown_cell (b := w4.heap.size) (grown_setCell (grown_refl _ _) _ _) hnba r9a_2⟩))
            refine wpAnyH_ready (rs := [10]) (by kernel_rfl) (by simp) ?_
            refine AllReadyH.cons rfl (fun Kc hKc => ?_) AllReadyH.nil
            refine step_app w8 rfl _ _ 27 rfl (.slice ay Y.length cy) (.slice (some ⟨bA, oA + q * W, none⟩) W (ac3 - q * W)) rfl rfl _ (run_app_ints _ w8 wi.heap.size _ _ Y X1 (oD.ext E8) hpart (by rw [HGL.out]; omega) (by have := E8.size; omega)) ?_; rintro v9 w9 ⟨o9, g9, _⟩; obtain ⟨a9, c9, hv9, _, _⟩ := o9.ints.val; subst hv9; have BP9 := (BPr.ext E8).block (g9.block _ (by have := E8.size; have := BPr.lt; omega) (fun e => by have := NY.out _ e.symm; omega)); have z9 := BP9.free 2; have q9 := BP9.cell (j := 2) rfl; have u9 := BP9.lt; have E9 : Ext w1 w9 := (hE6.trans E8).only g9 (fun z hz => by have := NY.out z hz; omega); have r9r_0 := E9.cell kr_0; have r9r_1 := E9.cell kr_1; have r9r_2 := E9.cell kr_2; have r9a_0 := E9.cell ka_0; have r9a_1 := E9.cell ka_1; have r9a_2 := E9.cell ka_2
            refine hKc.out _ _ ?_ (fun hHeld => ?_) <;> clear hKc Kc
            · (first | (with_reducible exact ⟨D0.cell jrr_0, D0.cell jrr_1, D0.cell jrr_2, D0.cell jra_0, D0.cell jra_1, D0.cell jra_2⟩) | (with_reducible exact ⟨r7r_0, r7r_1, r7r_2, r7a_0, r7a_1, r7a_2⟩) | (with_reducible exact ⟨r8r_0, r8r_1, r8r_2, r8a_0, r8a_1, r8a_2⟩) | (with_reducible exact ⟨r9r_0, r9r_1, r9r_2, r9a_0, r9a_1, r9a_2⟩) | (with_reducible exact ⟨grown_cell (b := w4.heap.size) (grown_setCell (grown_refl _ _) _ _) hnbr r9r_0, grown_cell (b := w4.heap.size) (grown_setCell (grown_refl _ _) _ _) hnbr r9r_1, grown_cell (b := w4.heap.size) (grown_setCell (grown_refl _ _) _ _) hnbr r9r_2, grown_cell (b := w4.heap.size) (grown_setCell (grown_refl _ _) _ _) hnba r9a_0, grown_cell (b := w4.heap.size) (grown_setCell (grown_refl _ _) _ _) hnba r9a_1, grown_cell (b := w4.heap.size) (grown_setCell (grown_refl _ _) _ _) hnba r9a_2⟩))
            refine wpAnyH_take (i := 11) (v := ?_) rfl (by kernel_rfl) (by kernel_rfl) (by kernel_rfl) (fun _ _ _ h => h) (Or.inl ⟨by rfl, ?_⟩) (by assumption) ?_
            rotate_left
            · intro w hSw; (try dsimp only at hSw); go_simp; (try with_reducible rfl)
            (try go_simp)
            refine wpAnyH_ready (rs := [12]) (by kernel_rfl) (by simp) ?_
            refine AllReadyH.cons rfl (fun Kc hKc => ?_) AllReadyH.nil
            go_simp
            refine hKc.out _ _ ?_ (fun hHeld => ?_) <;> clear hKc Kc
            · (first | (with_reducible exact ⟨D0.cell jrr_0, D0.cell jrr_1, D0.cell jrr_2, D0.cell jra_0, D0.cell jra_1, D0.cell jra_2⟩) | (with_reducible exact ⟨r7r_0, r7r_1, r7r_2, r7a_0, r7a_1, r7a_2⟩) | (with_reducible exact ⟨r8r_0, r8r_1, r8r_2, r8a_0, r8a_1, r8a_2⟩) | (with_reducible exact ⟨r9r_0, r9r_1, r9r_2, r9a_0, r9a_1, r9a_2⟩) | (with_reducible exact ⟨grown_cell (b := w4.heap.size) (grown_setCell (grown_refl _ _) _ _) hnbr r9r_0, grown_cell (b := w4.heap.size) (grown_setCell (grown_refl _ _) _ _) hnbr r9r_1, grown_cell (b := w4.heap.size) (grown_setCell (grown_refl _ _) _ _) hnbr r9r_2, grown_cell (b := w4.heap.size) (grown_setCell (grown_refl _ _) _ _) hnba r9a_0, grown_cell (b := w4.heap.size) (grown_setCell (grown_refl _ _) _ _) hnba r9a_1, grown_cell (b := w4.heap.size) (grown_setCell (grown_refl _ _) _ _) hnba r9a_2⟩))
            refine wpAnyH_done (by kernel_rfl) ?_ _
            go_wp2_with fail
            go_meet
            rw [List.length_append] at o9
            exact ⟨_, w8, w9, E8, g9, o9, BP9, rfl⟩
          refine AllReadyH.cons rfl (fun Kc hKc => ?_) AllReadyH.nil
          go_simp; go_at_call 110
          (with_reducible refine (rawElem_gen k p n (S0 + dd) (q * W) W HWW.out _ _ _ _ _ _ bA oA (flat xs).length ac3 w7 HQW.out hq0 hw HQ2.out hcA hX9).mono ?_); rintro e8 w8 ⟨rfl, h8⟩; have E8 : Ext wr w8 := E7r.trans h8; have q8 := E8.cell q2; have hpart := IntS.part (hsX.ext E8) (W := W) (o := q * W) hW1' HQ2.out; rw [HXX.out] at hpart; have r8r_0 := E8.cell jrr_0; have r8r_1 := E8.cell jrr_1; have r8r_2 := E8.cell jrr_2; have r8a_0 := E8.cell jra_0; have r8a_1 := E8.cell jra_1; have r8a_2 := E8.cell jra_2
          (try go_simp)
          refine hKc.out _ _ ?_ (fun hHeld => ?_) <;> clear hKc Kc
          · (first | (with_reducible exact ⟨D0.cell jrr_0, D0.cell jrr_1, D0.cell jrr_2, D0.cell jra_0, D0.cell jra_1, D0.cell jra_2⟩) | (with_reducible exact ⟨r7r_0, r7r_1, r7r_2, r7a_0, r7a_1, r7a_2⟩) | (with_reducible exact ⟨r8r_0, r8r_1, r8r_2, r8a_0, r8a_1, r8a_2⟩) | (with_reducible exact ⟨r9r_0, r9r_1, r9r_2, r9a_0, r9a_1, r9a_2⟩) | (with_reducible exact ⟨grown_cell (b := w4.heap.size) (grown_setCell (grown_refl _ _) _ _) hnbr r9r_0, grown_cell (b := w4.heap.size) (grown_setCell (grown_refl _ _) _ _) hnbr r9r_1, grown_cell (b := w4.heap.size) (grown_setCell (grown_refl _ _) _ _) hnbr r9r_2, grown_cell (b := w4.heap.size) (grown_setCell (grown_refl _ _) _ _) hnba r9a_0, grown_cell (b := w4.heap.size) (grown_setCell (grown_refl _ _) _ _) hnba r9a_1, grown_cell (b := w4.heap.size) (grown_setCell (grown_refl _ _) _ _) hnba r9a_2⟩))
          refine wpAnyH_ready (rs := [1]) (by kernel_rfl) (by simp) ?_
          refine AllReadyH.cons rfl (fun Kc hKc => ?_) AllReadyH.nil
          go_simp
          refine hKc.out _ _ ?_ (fun hHeld => ?_) <;> clear hKc Kc
          · (first | (with_reducible exact ⟨D0.cell jrr_0, D0.cell jrr_1, D0.cell jrr_2, D0.cell jra_0, D0.cell jra_1, D0.cell jra_2⟩) | (with_reducible exact ⟨r7r_0, r7r_1, r7r_2, r7a_0, r7a_1, r7a_2⟩) | (with_reducible exact ⟨r8r_0, r8r_1, r8r_2, r8a_0, r8a_1, r8a_2⟩) | (with_reducible exact ⟨r9r_0, r9r_1, r9r_2, r9a_0, r9a_1, r9a_2⟩) | (with_reducible exact ⟨grown_cell (b := w4.heap.size) (grown_setCell (grown_refl _ _) _ _) hnbr r9r_0, grown_cell (b := w4.heap.size) (grown_setCell (grown_refl _ _) _ _) hnbr r9r_1, grown_cell (b := w4.heap.size) (grown_setCell (grown_refl _ _) _ _) hnbr r9r_2, grown_cell (b := w4.heap.size) (grown_setCell (grown_refl _ _) _ _) hnba r9a_0, grown_cell (b := w4.heap.size) (grown_setCell (grown_refl _ _) _ _) hnba r9a_1, grown_cell (b := w4.heap.size) (grown_setCell (grown_refl _ _) _ _) hnba r9a_2⟩))
          refine wpAnyH_ready (rs := [10]) (by kernel_rfl) (by simp) ?_
          refine AllReadyH.cons rfl (fun Kc hKc => ?_) AllReadyH.nil
          refine step_app w8 rfl _ _ 27 rfl (.slice ay Y.length cy) (.slice (some ⟨bA, oA + q * W, none⟩) W (ac3 - q * W)) rfl rfl _ (run_app_ints _ w8 wi.heap.size _ _ Y X1 (oD.ext E8) hpart (by rw [HGL.out]; omega) (by have := E8.size; omega)) ?_; rintro v9 w9 ⟨o9, g9, _⟩; obtain ⟨a9, c9, hv9, _, _⟩ := o9.ints.val; subst hv9; have BP9 := (BPr.ext E8).block (g9.block _ (by have := E8.size; have := BPr.lt; omega) (fun e => by have := NY.out _ e.symm; omega)); have z9 := BP9.free 2; have q9 := BP9.cell (j := 2) rfl; have u9 := BP9.lt; have E9 : Ext w1 w9 := (hE6.trans E8).only g9 (fun z hz => by have := NY.out z hz; omega); have r9r_0 := E9.cell kr_0; have r9r_1 := E9.cell kr_1; have r9r_2 := E9.cell kr_2; have r9a_0 := E9.cell ka_0; have r9a_1 := E9.cell ka_1; have r9a_2 := E9.cell ka_2
          refine hKc.out _ _ ?_ (fun hHeld => ?_) <;> clear hKc Kc
          · (first | (with_reducible exact ⟨D0.cell jrr_0, D0.cell jrr_1, D0.cell jrr_2, D0.cell jra_0, D0.cell jra_1, D0.cell jra_2⟩) | (with_reducible exact ⟨r7r_0, r7r_1, r7r_2, r7a_0, r7a_1, r7a_2⟩) | (with_reducible exact ⟨r8r_0, r8r_1, r8r_2, r8a_0, r8a_1, r8a_2⟩) | (with_reducible exact ⟨r9r_0, r9r_1, r9r_2, r9a_0, r9a_1, r9a_2⟩) | (with_reducible exact ⟨grown_cell (b := w4.heap.size) (grown_setCell (grown_refl _ _) _ _) hnbr r9r_0, grown_cell (b := w4.heap.size) (grown_setCell (grown_refl _ _) _ _) hnbr r9r_1, grown_cell (b := w4.heap.size) (grown_setCell (grown_refl _ _) _ _) hnbr r9r_2, grown_cell (b := w4.heap.size) (grown_setCell (grown_refl _ _) _ _) hnba r9a_0, grown_cell (b := w4.heap.size) (grown_setCell (grown_refl _ _) _ _) hnba r9a_1, grown_cell (b := w4.heap.size) (grown_setCell (grown_refl _ _) _ _) hnba r9a_2⟩))
          refine wpAnyH_take (i := 11) (v := ?_) rfl (by kernel_rfl) (by kernel_rfl) (by kernel_rfl) (fun _ _ _ h => h) (Or.inl ⟨by rfl, ?_⟩) (by assumption) ?_
          rotate_left
          · intro w hSw; (try dsimp only at hSw); go_simp; (try with_reducible rfl)
          (try go_simp)
          refine wpAnyH_ready (rs := [12]) (by kernel_rfl) (by simp) ?_
          refine AllReadyH.cons rfl (fun Kc hKc => ?_) AllReadyH.nil
          go_simp
          refine hKc.out _ _ ?_ (fun hHeld => ?_) <;> clear hKc Kc
          · (first | (with_reducible exact ⟨D0.cell jrr_0, D0.cell jrr_1, D0.cell jrr_2, D0.cell jra_0, D0.cell jra_1, D0.cell jra_2⟩) | (with_reducible exact ⟨r7r_0, r7r_1, r7r_2, r7a_0, r7a_1, r7a_2⟩) | (with_reducible exact ⟨r8r_0, r8r_1, r8r_2, r8a_0, r8a_1, r8a_2⟩) | (with_reducible exact ⟨r9r_0, r9r_1, r9r_2, r9a_0, r9a_1, r9a_2⟩) | (with_reducible exact ⟨grown_cell (b := w4.heap.size) (grown_setCell (grown_refl _ _) _ _) hnbr r9r_0, grown_cell (b := w4.heap.size) (grown_setCell (grown_refl _ _) _ _) hnbr r9r_1, grown_cell (b := w4.heap.size) (grown_setCell (grown_refl _ _) _ _) hnbr r9r_2, grown_cell (b := w4.heap.size) (grown_setCell (grown_refl _ _) _ _) hnba r9a_0, grown_cell (b := w4.heap.size) (grown_setCell (grown_refl _ _) _ _) hnba r9a_1, grown_cell (b := w4.heap.size) (grown_setCell (grown_refl _ _) _ _) hnba r9a_2⟩))
          refine wpAnyH_done (by kernel_rfl) ?_ _
          go_wp2_with fail
          go_meet
          rw [List.length_append] at o9
          exact ⟨_, w8, w9, E8, g9, o9, BP9, rfl⟩
        case rest =>
          obtain ⟨v9, w8, w9', E8, g9, o9, BP9, rfl⟩ := hcut
          have nb : ∀ (v : Value) (l : List Int), OwnI wr w1.heap.size v l → (∀ q, v.ownBlock = some q → q < wi.heap.size ∧ q ≠ w4.heap.size) → OwnI (w9'.setCell ⟨w4.heap.size, 2, none⟩ v9) w1.heap.size v l := fun v l h hq =>
            ((h.ext E8).only g9 (fun z hz e => by have := NY.out z e; have := hq z hz; omega)).setOther (fun z hz => by have := hq z hz; simp only []; omega) _
          have o1c := nb _ _ oMr (fun z hz => by have := NMi.out z hz; have := HS9.out; omega)
          have o2c := nb _ _ oDr (fun z hz => by have := NDi.out z hz; have := HS9.out; omega)
          have o4c := nb _ _ oSr (fun z hz => by have := NSi.out z hz; have := HS9.out; omega)
          have oIc := nb _ _ oIr (fun z hz => by simp [Value.ownBlock] at hz; have := HS9.out; have := HBI.out; omega)
          have BPc := BP9.set 2 v9
          have oDc := o9.setBelow (p := ⟨w4.heap.size, 2, none⟩) (by simp only []; omega) v9
          have Ec : Ext w1 (w9'.setCell ⟨w4.heap.size, 2, none⟩ v9) := ((hEr.trans E8).only g9 (fun z hz => by have := NY.out z hz; omega)).setAt HS34.out _ _
          have hszc : wi.heap.size ≤ (w9'.setCell ⟨w4.heap.size, 2, none⟩ v9).heap.size := by have := g9.size; have := E8.size; simp; omega
          obtain ⟨wx, hwx⟩ : ∃ wx, w9'.setCell ⟨w4.heap.size, 2, none⟩ v9 = wx := ⟨_, rfl⟩
          rw [hwx] at o1c o2c o4c oIc BPc oDc Ec hszc ⊢
          clear nb hwx g9 o9 BP9 oMr oDr oSr oIr BPr oYr oD q2
          clear jrr_0 jrr_1 jrr_2 jra_0 jra_1 jra_2 lrr lra lrz
          have q1 := BPc.cell (j := 1) rfl
          have ql2 := BPc.lt
          go_wp2_with fail
          refine (nextIndex_any w1.heap.size _ _ (M.map dm) (M.map (asg (axs dm M) o σ0)) _ o2c.ints oIc (by simp) (fun z hz => by have := asg_pos HT.out.uni sM.out o z hz; omega) (fun z hz e => by simp [Value.ownBlock] at hz; have := NDi.out z e; omega)).mono ?_; rintro e10 w10 ⟨rfl, oI10, g10⟩
          have e4 : (Value.slice (some ⟨bI, 0, none⟩) M.length M.length).ownBlock = some bI := rfl
          rw [e4] at g10
          have o1d := o1c.only g10 (fun z hz e => by injection e with e; have := NMi.out z hz; omega)
          have o2d := o2c.only g10 (fun z hz e => by injection e with e; have := NDi.out z hz; omega)
          have o4d := o4c.only g10 (fun z hz e => by injection e with e; have := NSi.out z hz; omega)
          have BPd := BPc.block (g10.block _ ql2 (fun e => by injection e with e; have := HBI.out; omega))
          have oDd := oDc.only g10 (fun z hz e => by injection e with e; have := oDc.block_lt hz; have := HS9.out; omega)
          have Ed : Ext w1 w10 := Ec.only g10 (fun z hz => by injection hz with hz; have := HBI.out; omega)
          have hszd : wi.heap.size ≤ w10.heap.size := by have := g10.size; omega
          rw [next_asg HT.out.uni sM.out (by rw [HZ.out]; exact ho)] at oI10 ⊢
          by_cases hlast : o + 1 < size (axs dm M)
          · rw [if_pos hlast] at oI10 ⊢
            have HL1 : Hid (o + 1 < Z) := Lib.hid (by rw [← HZ.out]; exact hlast)
            clear hlast
            have HOI := Lib.hid oI10; clear oI10
            clear o1c o2c o4c oIc BPc oDc Ec hszc q1 ql2 e4 hsI hsS hsX
            go_wp2
            go_roundg (gk - 1)
            case measure => have := hg.out; have := HL1.out; omega
            case rel => exact ⟨o + 1, v9, Lib.hid (by have := hg.out; omega), HL1.out, BPd, o1d, o2d, o4d, HOI.out, by rw [HX5.out]; exact oDd, Ed, hszd⟩
          · rw [if_neg hlast]
            have ho1 : o + 1 = Z := by have := HZ.out; omega
            have hD : flat Ys = Y ++ X1 := by rw [← HX5.out, ho1, ← HYl.out, List.take_length]
            rw [← hD] at oDd
            obtain ⟨ag, cg, rfl, _, _⟩ := oDd.ints.val
            have NG : Hid (∀ q, (Value.slice ag (flat Ys).length cg).ownBlock = some q → wi.heap.size ≤ q) := Lib.hid fun q hq => (oDd.block_lt hq).1
            have BRd := Bz.ext Ed
            have f0 := BRd.free 0
            have f1 := BRd.free 1
            have f2 := BRd.free 2
            have z0 := BRd.cell (j := 0) rfl
            have z1 := BRd.cell (j := 1) rfl
            have z2 := BRd.cell (j := 2) rfl
            have rl := BRd.lt
            have y0 := BPd.cell (j := 0) rfl
            have y1 := BPd.cell (j := 1) rfl
            have y2 := BPd.cell (j := 2) rfl
            have ly := BPd.lt
            have hlt3 : w.heap.size + 1 + 1 < w1.heap.size := by have := HS1.out; omega
            have hzc : w.heap.size + 1 + 1 ≠ w4.heap.size := by have := HS34.out; omega
            have hzc2 : w4.heap.size ≠ w.heap.size + 1 + 1 := hzc.symm
            have hlt4 : w.heap.size + 1 + 1 < wi.heap.size := by omega
            clear q1 ql2 e4 hsI hsS hsX o1c o2c o4c oIc BPc oDc oI10 hD ho1 hlast
            have HO1 := Lib.hid o1d; have HO2 := Lib.hid o2d; have HOY := Lib.hid oDd; clear o1d o2d o4d oDd
            go_upto_region 17 with fail
            repeat go_step
            refine bodyPost_ret (v := .tuple #[.agg #[.slice aM M.length cM, .slice av M.length cv, .slice ag (flat Ys).length cg], .bool true]) (by simp [results, Try.results41, go_sem, *]) rfl ?_
            refine ⟨_, rfl, ⟨_, _, _, rfl, ?_, ?_, ?_, fun z hz => ⟨fun e => ?_, fun e => ?_⟩, fun z hz e => ?_⟩, (((h1.trans Ed).setAt (by omega) _ _).setAt (by omega) _ _).setAt (by omega) _ _⟩
            · exact (((HO1.out.setBelow hlt3 _).setBelow hlt3 _).setBelow hlt3 _).mono (by omega)
            · exact (((HO2.out.setBelow hlt3 _).setBelow hlt3 _).setBelow hlt3 _).mono (by omega)
            · exact (((HOY.out.setBelow hlt4 _).setBelow hlt4 _).setBelow hlt4 _).mono (by omega)
            · exact NDM.out z hz e
            · have := NMi.out z hz; have := NG.out z e; have := HS9.out; omega
            · have := NDi.out z hz; have := NG.out z e; have := HS9.out; omega
end
end Go.Proofs.Ytpegckmagiaggaa
