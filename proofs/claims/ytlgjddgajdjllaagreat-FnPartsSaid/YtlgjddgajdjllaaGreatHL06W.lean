/- l05Get, l05Index, l06Permute of the reference (a tensor with the axes in some order), MakeLike. -/
import Derived.Test.YtlgjddgajdjllaaGreatHPermW
import Derived.Test.YtlgjddgajdjllaaGreatHG6
set_option linter.unusedSimpArgs false
set_option linter.unusedVariables false
namespace Go.Proofs.YtlgjddgajdjllaaGreat
open Go.RowKit
set_option maxHeartbeats 1000000 in
theorem l05Get_own (k p n i : Int) (o W : Nat) (hW : ringWidth k n = (W : Int)) (a1 a2 : Option Addr) (m1 c1 m2 c2 bd off cd : Nat) (X : List Int) (w : World) (hX : IntS w (.slice (some ⟨bd, off, none⟩) X.length cd) X) (ho : i * (W : Int) = o) (hi : 0 ≤ i) (hw : RingWide k n) (hfit : o + W ≤ X.length) (hcd : X.length ≤ cd) (hlen : X.length ≤ 1048576) :
 Calls Tryz.prog 72 #[ringV k p n, .agg #[.slice a1 m1 c1, .slice a2 m2 c2, .slice (some ⟨bd, off, none⟩) X.length cd], .int .i64 i] w fun e w' =>
  ∃ v, e = .returned v ∧ OwnI w' w.heap.size v (getL X o W) ∧ Ext w w' := by
 have hw0 := hw.lo
 have hw1 := hw.hi
 rw [hW] at hw0 hw1
 have hpart := hX.part (o := o) (W := W) (by omega) hfit
 have hib : i * 1 ≤ i * (W : Int) := Int.mul_le_mul_of_nonneg_left (by omega) hi
 have e1 : IntKind.i64.wrap (i * (W : Int)) = (o : Int) := by rw [IntKind.wrap_i64, ho]; omega
 have e3 : IntKind.i64.wrap ((o : Int) + W) = ((o + W : Nat) : Int) := by rw [IntKind.wrap_i64]; omega
 have e4 : o + W - o = W := by omega
 have e5 : o < cd := by omega
 have hgl : (getL X o W).length = W := getL_length hfit
 have HGL := Lib.hid hgl
 have HW := Lib.hid hW; clear hW hw ho hgl
 go_enter Tryz.func72, Tryz.ntmps72
 go_wp2_with fail
 refine (l02Width_any _ _ _ _).mono ?_; rintro e1 w1 ⟨rfl, h1⟩; rw [HW.out]; have s1 := h1.size; (try simp at s1); have t1_0 : w.heap.size < w1.heap.size := (by omega); have c1_0 := fun o => h1.cells (w.heap.size) o (by first | (simp; done) | (simp; omega) | omega); have t1_1 : w.heap.size + 1 < w1.heap.size := (by omega); have c1_1 := fun o => h1.cells (w.heap.size + 1) o (by first | (simp; done) | (simp; omega) | omega); have f1_0 := fun o => h1.frozens (w.heap.size) o (by first | (simp; done) | (simp; omega) | omega); have f1_1 := fun o => h1.frozens (w.heap.size + 1) o (by first | (simp; done) | (simp; omega) | omega)
 have E1 : Ext w w1 := xt
 have hp1 := (hpart.ext E1).ext (show Ext w1 (w1.alloc (.cells #[] 3)) from xt)
 have hs1 := E1.size
 go_wp2_with (at_builtin; (try rw [e4]); refine wpList_app _ rfl _ _ 27 rfl _ _ rfl rfl _ (run_app_ints _ (w1.alloc (.cells #[] 3)) w.heap.size (.slice (some ⟨w1.heap.size, 0, none⟩) 0 0) (.slice (some ⟨bd, off + o, none⟩) W (cd - o)) [] (getL X o W) (OwnI.empty hs1 rfl) hp1 (by rw [HGL.out]; simp; omega) (by simp; omega)) ?_; rintro v4 w4 ⟨o4, g4, _⟩)
 go_ret
 exact ⟨_, rfl, o4, Ext.only (E1.alloc _) g4 (fun q hq => by simp [Value.ownBlock] at hq; omega)⟩
set_option maxHeartbeats 1000000 in
theorem l05Index_any (vD : Value) (D : List Int) (n : Int) (w : World) (hD : IntS w vD D) (hd : ∀ d ∈ D, 1 ≤ d ∧ d ≤ 8) (hl : D.length ≤ 12) (h0 : 0 ≤ n) (h1 : n ≤ 1048576) : Calls Tryz.prog 67 #[vD, .int .i64 n] w fun e w' =>
 ∃ v, e = .returned v ∧ OwnI w' w.heap.size v (idxL D n) ∧ Ext w w' := by
 obtain ⟨a, cap, rfl, hc1, hc2⟩ := hD.val
 have hmk := mkInts D.length (by omega)
 have HD := Lib.hid hd; clear hd
 go_enter Tryz.func67, Tryz.ntmps67
 go_wp2_with fail
 go_loopw [1, 6] (fun q i wr => ∃ (j : Nat) (c : Int), j ≤ D.length ∧ i = .int .i64 ((j : Int) - 1) ∧ q = .int .i64 c ∧ 0 ≤ c ∧ c ≤ 1048576 ∧ n / prodL (D.drop j) = c ∧ Blk wr w.heap.size 3 (ints (List.replicate j 0 ++ idxL (D.drop j) n)) ∧ Ext w wr) (fun q i wr => (RowKit.intOf i + 1).toNat)
 case atStart =>
  refine ⟨D.length, n, Nat.le_refl _, rfl, rfl, h0, h1, by rw [drop_len]; simp [prodL], ?_, xt⟩
  rw [drop_len, idxL, List.append_nil]
  exact blk_made w _ _ rfl
 obtain ⟨j, c, hj, rfl, rfl, hc0, hc3, hcc, hB, hE⟩ := hrel
 have HC := Lib.hid hcc; clear hcc
 rcases Nat.eq_zero_or_pos j with rfl | hjp
 · go_wp2
   go_ret
   rw [List.drop_zero, List.replicate_zero, List.nil_append] at hB
   exact ⟨_, rfl, OwnI.mk' (by rw [idxL_length]) (Nat.le_refl _) hB (by unfold maxLen; omega), hE⟩
 obtain ⟨j, rfl⟩ : ∃ i, j = i + 1 := ⟨j - 1, by omega⟩
 obtain ⟨b, off, d, rfl, hcell0, hy, hdr⟩ := hD.get (i := j) (by omega)
 have hbl := World.block_lt_of_cell? w _ hcell0
 have hcell := hE.cell hcell0
 have hbne : b ≠ w.heap.size := by simp at hbl; omega
 clear hcell0
 obtain ⟨d0, d1⟩ := HD.out d (List.mem_of_getElem? hy)
 have hP := prodL_pos (D := D.drop (j + 1)) fun x hx => HD.out x (List.mem_of_mem_drop hx)
 have hs1 := idxL_step (n := n) hdr
 have hs2 := div_step (n := n) (by omega) hdr
 rw [HC.out] at hs1 hs2
 have ho := hB.cell (j := j) (u := .int .i64 0) (by rw [ints_get, List.getElem?_append_left (by simp), rep_get _ (by omega)]; rfl)
 have hfz := hB.free j
 have r0 := Int.emod_nonneg c (show d ≠ 0 by omega)
 have r1 := Int.emod_lt_of_pos c (show 0 < d by omega)
 have q0 := Int.ediv_nonneg hc0 (show 0 ≤ d by omega)
 have q1 : c / d ≤ c := Int.ediv_le_self _ hc0
 have H1 := Lib.hid hs1; have H2 := Lib.hid hs2
 have e1 : (((j + 1 : Nat) : Int) - 1) = (j : Int) := by omega
 rw [e1]
 have hjl : j < D.length := by omega
 have hjc : j < cap := by omega
 clear hs1 hs2 hy hdr e1 hP
 go_wp2
 go_roundw
 case rel =>
  refine ⟨j, c / d, by omega, rfl, rfl, q0, by omega, H2.out, ?_, hE.setCell (Nat.le_refl _) _⟩
  rw [H1.out, ← zeros_set, ← ints_set]
  exact Blk.set hB _ _
 case measure => simp [RowKit.intOf] <;> omega
section permute
variable {k p n : Int} (hr : ringOk k p n = true)
include hr
end permute
end Go.Proofs.YtlgjddgajdjllaaGreat
