/- DimOf, UsesOf, WeightOf of the program. -/
import Derived.Test.YtpegckmagiaggaaJNetSW
set_option linter.unusedSimpArgs false
set_option linter.unusedVariables false
namespace Go.Proofs.Ytpegckmagiaggaa
open Go.RowKit
set_option maxRecDepth 100000 in
set_option maxHeartbeats 4000000 in
theorem dimOf_any {k p n : Int} (hr : ringOk k p n = true) {dm : Int → Int} {U : List Int} {ts : List (NT k p n)} {op : List Int} (hN : IsN k p n dm U ts op) (tv ov : Value) (w : World) (hT : TensS w tv (ts.map (tenOf dm))) (hO : IntS w ov op) (c : Nat) (hc : c < 100) :
 Calls Try.prog 23 #[.agg #[.int .i64 k, .int .i64 p, .int .i64 n, tv, ov], .int .i64 (c : Int)] w fun e w' => e = .returned (.int .i64 (if hasL (occ ts) (c : Int) = true then dm c else 0)) ∧ Ext w w' := by
 have hT0 := hT
 have hO0 := hO
 obtain ⟨m, hm⟩ : ∃ m, ts.length = m := ⟨_, rfl⟩
 obtain ⟨aV, cV, rfl, hcT1, hcT2⟩ := hT.val
 obtain ⟨aO, cO, rfl, hcO1, hcO2⟩ := hO.val
 rw [List.length_map, hm] at hT hT0 hcT1
 rw [List.length_map, hm]
 have hm12 : m ≤ 12 := by rw [← hm]; exact hN.len
 have hop12 : op.length ≤ 12 := hN.rank
 have HM := Lib.hid hm; have HR := Lib.hid hr; have HN := Lib.hid hN; have HD3 := Lib.hid hN.dims3; clear hm hr hN
 have hTl : Hid ((ts.map (tenOf dm)).length = m) := Lib.hid (by rw [List.length_map]; exact HM.out)
 have hc0 : ¬ (c : Int) < 0 := by omega
 have hc9 : ¬ (99 : Int) < (c : Int) := by omega
 obtain ⟨RS, hRS⟩ : ∃ q, (if hasL (occ ts) (c : Int) = true then dm c else 0) = q := ⟨_, rfl⟩
 have HAC := Lib.hid (arrL_get dm (occ ts) hc)
 rw [hRS] at HAC ⊢
 have HRS := Lib.hid hRS; clear hRS
 have hc1 : (0 : Int) ≤ (c : Int) := by omega
 have hc2 : (c : Int) < 100 := by omega
 go_enter Try.func23, Try.ntmps23
 go_upto_region 1 with fail
 have hH : Held w w [] := Held.new (Ext.refl w) 0
 have hB : Held w (w.alloc (.cells #[.int .i64 k, .int .i64 p, .int .i64 n, .slice aV m cV, .slice aO op.length cO] 29)) [aB (w.heap.size) 29 [.int .i64 k, .int .i64 p, .int .i64 n, .slice aV m cV, .slice aO op.length cO]] := by
  have h := (hH.mores 1).addB 0 #[.int .i64 k, .int .i64 p, .int .i64 n, .slice aV m cV, .slice aO op.length cO] 29
  exact h
 have hsz : (w.alloc (.cells #[.int .i64 k, .int .i64 p, .int .i64 n, .slice aV m cV, .slice aO op.length cO] 29)).heap.size = w.heap.size + 1 := by simp
 generalize w.alloc (.cells #[.int .i64 k, .int .i64 p, .int .i64 n, .slice aV m cV, .slice aO op.length cO] 29) = wn1 at hB hsz ⊢
 replace hH := hB; have HSZwn1 := Lib.hid hsz; clear hB hsz
 have q0_0 := hH.cl 0 0 rfl rfl; have q0_1 := hH.cl 0 1 rfl rfl; have q0_2 := hH.cl 0 2 rfl rfl; have q0_3 := hH.cl 0 3 rfl rfl; have q0_4 := hH.cl 0 4 rfl rfl; have l0_ := hH.bl 0 rfl
 go_wp2_with fail
 clear q0_0 q0_1 q0_2 q0_3 q0_4 l0_
 refine (networkOk_any HR.out HN.out _ _ _ (hT0.ext hH.ext) (hO0.ext hH.ext)).mono ?_; rintro ewn2 wn2 ⟨rfl, hwn2⟩
 replace hH : Held w wn2 [aB (w.heap.size) 29 [.int .i64 k, .int .i64 p, .int .i64 n, .slice aV m cV, .slice aO op.length cO]] := hH.grow hwn2
 clear hwn2
 have q0_0 := hH.cl 0 0 rfl rfl; have q0_1 := hH.cl 0 1 rfl rfl; have q0_2 := hH.cl 0 2 rfl rfl; have q0_3 := hH.cl 0 3 rfl rfl; have q0_4 := hH.cl 0 4 rfl rfl; have l0_ := hH.bl 0 rfl
 go_wp2_with fail
 clear q0_0 q0_1 q0_2 q0_3 q0_4 l0_
 refine (dimsOf_any HD3.out (by rw [hTl.out]; omega) _ _ (hT.ext hH.ext)).mono ?_; rintro ewn3 wn3 ⟨rfl, hwn3⟩
 rw [occ3_ten]
 replace hH : Held w wn3 [aB (w.heap.size) 29 [.int .i64 k, .int .i64 p, .int .i64 n, .slice aV m cV, .slice aO op.length cO]] := hH.grow hwn3
 clear hwn3
 go_upto_region 4 with (first | (refine wpList_alloc_arr rfl rfl ?_) | (refine wpList_store_arr (A0 := (List.replicate 100 0)) rfl _ _ rfl rfl rfl (by have h := Blk.new wn3 (arrV (List.replicate 100 0)) 99; rw [arrV_list] at h; exact h) (arrL_length _ _) (List.length_replicate ..) ?_; rintro wn4 hg hB hs))
 replace hH : Held w wn4 [aB (w.heap.size) 29 [.int .i64 k, .int .i64 p, .int .i64 n, .slice aV m cV, .slice aO op.length cO], aB (wn3.heap.size) 99 (ints (arrL dm (occ ts)))] := (hH.mores 1).add 1 (((Ext.refl _).alloc _).only hg (fun q hq => by cases hq; exact Nat.le_refl _)) hB (fun q hq => by simp [aB] at hq; subst hq; exact Nat.le_refl _)
 clear hg hB hs
 have hcA := (hH.blk (k := 1) rfl).cell (j := c) (u := .int .i64 RS) (by rw [ints_get, HAC.out]; rfl)
 have hlA := hH.bl 1 rfl
 have HE := Lib.hid hH.ext; clear hH
 go_wp2
 go_ret
 exact ⟨rfl, HE.out⟩
end Go.Proofs.Ytpegckmagiaggaa
