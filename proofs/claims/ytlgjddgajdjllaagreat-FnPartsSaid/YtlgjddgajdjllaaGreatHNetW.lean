/- NetworkOk, LabelsOf, DimOf, UsesOf, openAxes of the program. -/
import Derived.Test.YtlgjddgajdjllaaGreatHAxesW
set_option linter.unusedSimpArgs false
set_option linter.unusedVariables false
namespace Go.Proofs.YtlgjddgajdjllaaGreat
open Go.RowKit
theorem IsN.opIn {k p n : Int} {dm : Int → Int} {U : List Int} {ts : List (NT k p n)} {op : List Int} (h : IsN k p n dm U ts op) : ∀ x ∈ op, (0 ≤ x ∧ x ≤ 99) ∧ x ∈ Proofs.YtlgjddgajdjllaaGreat.occ ts := fun x hx => ⟨h.uni.labs (h.sub.sub x hx), h.occ x hx⟩
theorem IsN.opDim {k p n : Int} {dm : Int → Int} {U : List Int} {ts : List (NT k p n)} {op : List Int} (h : IsN k p n dm U ts op) {x : Int} (hx : x ∈ Proofs.YtlgjddgajdjllaaGreat.occ ts) : 1 ≤ dm x ∧ dm x ≤ 8 := h.uni.dim (h.occU hx)
theorem IsN.opSize {k p n : Int} {dm : Int → Int} {U : List Int} {ts : List (NT k p n)} {op : List Int} (h : IsN k p n dm U ts op) : (tsize op (op.map dm) == -1) = false := by
  rw [beq_eq_false_iff_ne, (h.uni.ax h.sub).tsize]
  have := (h.uni.ax h.sub).pos; omega
set_option maxRecDepth 100000 in
set_option maxHeartbeats 4000000 in
theorem networkOk_any {k p n : Int} (hr : ringOk k p n = true) {dm : Int → Int} {U : List Int} {ts : List (NT k p n)} {op : List Int} (hN : IsN k p n dm U ts op) (tv ov : Value) (w : World) (hT : TensS w tv (ts.map (tenOf dm))) (hO : IntS w ov op) :
 Calls Tryz.prog 21 #[.agg #[.int .i64 k, .int .i64 p, .int .i64 n, tv, ov]] w fun e w' => e = .returned (.bool true) ∧ Ext w w' := by
 obtain ⟨m, aV, cV, aO, cO, rfl, rfl, hcT1, hcT2, hcO1, hcO2, hm12, hop12, HM, HD3, hTl⟩ := net_in hN hT hO
 have hT0 := hT; have hO0 := hO; have HR := Lib.hid hr; have HN := Lib.hid hN; clear hr hN; try rw [HM.out]
 go_enter Tryz.func21, Tryz.ntmps21
 go_upto_region 1 with fail
 have hH : Held w w [] := Held.new (Ext.refl w) 0
 obtain ⟨hB, hsz⟩ := hH.laid #[.int .i64 k, .int .i64 p, .int .i64 n, .slice aV m cV, .slice aO op.length cO] 29
 generalize w.alloc (.cells #[.int .i64 k, .int .i64 p, .int .i64 n, .slice aV m cV, .slice aO op.length cO] 29) = wn1 at hB hsz ⊢
 replace hH : Held w wn1 [nB w.heap.size k p n aV m cV aO op.length cO] := hB
 have HSZwn1 := Lib.hid (show wn1.heap.size = w.heap.size + 1 by rw [hsz]); clear hB hsz
 obtain ⟨q0_0, q0_1, q0_2, q0_3, q0_4, l0_⟩ := hH.c5 0 rfl
 go_wp2_with fail
 clear q0_0 q0_1 q0_2 q0_3 q0_4 l0_
 refine (ringOk_impl k p n _).mono ?_; rintro ewn2 wn2 ⟨rfl, hwn2⟩
 rw [HR.out]
 replace hH : Held w wn2 [nB w.heap.size k p n aV m cV aO op.length cO] := hH.grow hwn2
 clear hwn2
 have hb12 : ¬ (12 : Int) < (m : Int) := by omega
 have hbo12 : ¬ (12 : Int) < (op.length : Int) := by omega
 obtain ⟨q0_0, q0_1, q0_2, q0_3, q0_4, l0_⟩ := hH.c5 0 rfl
 go_wp2_with fail
 clear q0_0 q0_1 q0_2 q0_3 q0_4 l0_
 clear hb12 hbo12
 go_loopw [28] (fun i wr => ∃ j : Nat, j ≤ m ∧ i = .int .i64 (j : Int) ∧ Held w wr [nB w.heap.size k p n aV m cV aO op.length cO]) (fun i wr => m - (RowKit.intOf i).toNat)
 case atStart => exact ⟨0, Nat.zero_le _, rfl, hH⟩
 clear hH
 obtain ⟨j, hj, rfl, hH⟩ := hrel
 by_cases hlt : j < m
 ·
  obtain ⟨bT, oT, tl, xs, e1, f1, e2, f2, e3, m3, f3, hV, HTJ, HTI, hu0, hu1, hu2, hTu, hTL, hTD, hTX, _, _, _, _⟩ := hT.ten HN.out.ten (j := j) (by rw [hTl.out]; exact hlt); subst hV
  obtain ⟨q0_0, q0_1, q0_2, q0_3, q0_4, l0_⟩ := hH.c5 0 rfl; have c_hu0 := hH.ext.cell hu0; have c_hu1 := hH.ext.cell hu1; have c_hu2 := hH.ext.cell hu2
  go_upto_region 6 with fail
  clear q0_0 q0_1 q0_2 q0_3 q0_4 l0_ c_hu0 c_hu1 c_hu2
  obtain ⟨hB, hsz⟩ := hH.laid #[.slice e1 tl.length f1, .slice e2 tl.length f2, .slice e3 m3 f3] 35
  generalize wr.alloc (.cells #[.slice e1 tl.length f1, .slice e2 tl.length f2, .slice e3 m3 f3] 35) = wn3 at hB hsz ⊢
  replace hH : Held w wn3 [nB w.heap.size k p n (some ⟨bT, oT, none⟩) m cV aO op.length cO, tB wr.heap.size e1 tl.length f1 e2 tl.length f2 e3 m3 f3] := hB
  have HSZwn3 := Lib.hid (show wn3.heap.size = wr.heap.size + 1 by rw [hsz]); clear hB hsz
  obtain ⟨q0_0, q0_1, q0_2, q0_3, q0_4, l0_⟩ := hH.c5 0 rfl; obtain ⟨q1_0, q1_1, q1_2, l1_⟩ := hH.c3 1 rfl; have c_hu0 := hH.ext.cell hu0; have c_hu1 := hH.ext.cell hu1; have c_hu2 := hH.ext.cell hu2
  go_wp2_with fail
  clear q0_0 q0_1 q0_2 q0_3 q0_4 l0_ q1_0 q1_1 q1_2 l1_ c_hu0 c_hu1 c_hu2
  refine (tensorOk_impl k p n _ tl (tl.map dm) (flat xs) _ (hTu.ext hH.ext)).mono ?_; rintro ewn4 wn4 ⟨rfl, hwn4⟩
  rw [HTI.out.yes HR.out]
  replace hH : Held w wn4 [nB w.heap.size k p n (some ⟨bT, oT, none⟩) m cV aO op.length cO, tB wr.heap.size e1 tl.length f1 e2 tl.length f2 e3 m3 f3] := hH.grow hwn4
  clear hwn4
  go_wp2_with fail
  go_roundw
  case rel => exact ⟨j + 1, by omega, by go_num, hH.sub (.cons_cons _ (.cons _ .slnil))⟩
  case measure => simp [RowKit.intOf]; omega
 have hje : j = m := by omega
 subst hje
 obtain ⟨wo, rfl⟩ : ∃ q, q = wr := ⟨wr, rfl⟩
 obtain ⟨q0_0, q0_1, q0_2, q0_3, q0_4, l0_⟩ := hH.c5 0 rfl
 go_wp2_with fail
 clear q0_0 q0_1 q0_2 q0_3 q0_4 l0_
 refine (dimsOf_any HD3.out (by rw [hTl.out]; omega) _ _ (hT.ext hH.ext)).mono ?_; rintro ewn5 wn5 ⟨rfl, hwn5⟩
 rw [occ3_ten]
 replace hH : Held w wn5 [nB w.heap.size k p n aV j cV aO op.length cO] := hH.grow hwn5
 clear hwn5
 go_upto_region 10 with (first | (refine wpList_alloc_arr rfl rfl ?_) | (refine wpList_store_arr (A0 := (List.replicate 100 0)) rfl _ _ rfl rfl rfl (by have h := Blk.new wn5 (arrV (List.replicate 100 0)) 92; rw [arrV_list] at h; exact h) (arrL_length _ _) (List.length_replicate ..) ?_; rintro wn6 hg hB hs))
 replace hH : Held w wn6 [nB w.heap.size k p n aV j cV aO op.length cO, aB (wn5.heap.size) 92 (ints (arrL dm (occ ts)))] := (hH.mores 1).add 1 (((Ext.refl _).alloc _).only hg (fun q hq => by cases hq; exact Nat.le_refl _)) hB (fun q hq => by simp [aB] at hq; subst hq; exact Nat.le_refl _)
 clear hg hB hs
 obtain ⟨q0_0, q0_1, q0_2, q0_3, q0_4, l0_⟩ := hH.c5 0 rfl
 go_wp2_with fail
 clear q0_0 q0_1 q0_2 q0_3 q0_4 l0_
 go_loopw [49] (fun i wr => ∃ q : Nat, q ≤ op.length ∧ i = .int .i64 (q : Int) ∧ Held w wr [nB w.heap.size k p n aV j cV aO op.length cO, aB (wn5.heap.size) 92 (ints (arrL dm (occ ts)))]) (fun i wr => op.length - (RowKit.intOf i).toNat)
 case atStart => exact ⟨0, Nat.zero_le _, rfl, hH⟩
 clear hH
 obtain ⟨q, hq, rfl, hH⟩ := hrel
 by_cases hlq : q < op.length
 ·
  obtain ⟨bO, oO, x, rfl, hcO, hx, _⟩ := hO.get hlq
  obtain ⟨⟨hx0, hx1⟩, hxo⟩ := HN.out.opIn x (List.mem_of_getElem? hx)
  have hdx := (HN.out.opDim hxo).1
  obtain ⟨c, rfl⟩ : ∃ c : Nat, x = (c : Int) := ⟨x.toNat, by omega⟩
  have hc : c < 100 := by omega
  have hcA := (hH.blk (k := 1) rfl).cell (j := c) (u := .int .i64 (dm c)) (by rw [ints_get, arrL_get dm _ hc, if_pos ((hasL_iff _ _).2 hxo)]; rfl)
  have hlA := hH.bl 1 rfl
  have hc0 : ¬ (c : Int) < 0 := by omega
  have hc1 : ¬ (99 : Int) < (c : Int) := by omega
  have hc2 : ¬ dm c = 0 := by omega
  have hc3 : (0 : Int) ≤ (c : Int) := by omega
  have hc4 : (c : Int) < 100 := by omega
  clear hx hxo
  obtain ⟨q0_0, q0_1, q0_2, q0_3, q0_4, l0_⟩ := hH.c5 0 rfl; have c_hcO := hH.ext.cell hcO
  go_wp2_with fail
  go_roundw
  case rel => exact ⟨q + 1, by omega, by go_num, hH⟩
  case measure => simp [RowKit.intOf]; omega
 obtain ⟨w5, rfl⟩ : ∃ q, q = wr := ⟨wr, rfl⟩
 have hB0 := hH.blk (k := 1) rfl
 obtain ⟨q0_0, q0_1, q0_2, q0_3, q0_4, l0_⟩ := hH.c5 0 rfl
 go_wp2_with (first | (refine wpList_load_arr rfl _ rfl rfl hB0 (arrL_length _ _) ?_))
 clear q0_0 q0_1 q0_2 q0_3 q0_4 l0_
 clear hB0
 refine (axesOf_any HN.out.opIn (by omega) _ _ (hO.ext hH.ext)).mono ?_; rintro ewn7 wn7 ⟨x1, y1, rfl, hJ⟩
 replace hH : Held w wn7 [nB w.heap.size k p n aV j cV aO op.length cO, aB (wn5.heap.size) 92 (ints (arrL dm (occ ts))), aI x1 op, aI y1 (op.map dm)] := hH.join hJ (fun q hq => by cases hq)
 clear hJ
 obtain ⟨q0_0, q0_1, q0_2, q0_3, q0_4, l0_⟩ := hH.c5 0 rfl
 go_wp2_with fail
 clear q0_0 q0_1 q0_2 q0_3 q0_4 l0_
 refine (tensorSize_impl _ op (op.map dm) [] _ ⟨_, _, _, rfl, hH.ints (k := 2) rfl, hH.ints (k := 3) rfl, IntS.nil _⟩).mono ?_; rintro ewn8 wn8 ⟨rfl, hwn8⟩
 replace hH : Held w wn8 [nB w.heap.size k p n aV j cV aO op.length cO, aB (wn5.heap.size) 92 (ints (arrL dm (occ ts))), aI x1 op, aI y1 (op.map dm)] := hH.grow hwn8
 clear hwn8
 have hsz : ¬ tsize op (op.map dm) = -1 := by simpa using HN.out.opSize
 have HE := Lib.hid hH.ext; clear hH
 go_wp2
 go_ret
 exact ⟨by simp [hsz], HE.out⟩
end Go.Proofs.YtlgjddgajdjllaaGreat
