/- DimOf, UsesOf, WeightOf of the program. -/
import Derived.Test.YtpegckmagiaggaaDBase
import Derived.Test.YtpegckmagiaggaaDNetSW
namespace Go.Proofs.Ytpegckmagiaggaa
open Go.RowKit
set_option linter.unusedSimpArgs false
set_option linter.unusedVariables false
section
variable {k p n : Int}
/-- The numbers of the first tensors that have a label. -/
def usesL (ts : List (NT k p n)) (x : Int) (j : Nat) : List Int := ((List.range j).filter fun i => hasL (labAt1 ts i) x).map fun i : Nat => (i : Int)
  where labAt1 (ts : List (NT k p n)) (i : Nat) : List Int := (ts[i]?.map (·.1)).getD []
theorem usesL_yes {ts : List (NT k p n)} {x : Int} {j : Nat} {t : NT k p n} (h : ts[j]? = some t) (hx : x ∈ t.1) : usesL ts x (j + 1) = usesL ts x j ++ [(j : Int)] := by
  unfold usesL
  rw [List.range_succ, List.filter_append, List.map_append]
  have : hasL (usesL.labAt1 ts j) x = true := by unfold usesL.labAt1; rw [h]; exact (hasL_iff _ _).2 hx
  simp [this]
theorem usesL_no {ts : List (NT k p n)} {x : Int} {j : Nat} {t : NT k p n} (h : ts[j]? = some t) (hx : x ∉ t.1) : usesL ts x (j + 1) = usesL ts x j := by
  unfold usesL
  rw [List.range_succ, List.filter_append]
  have : hasL (usesL.labAt1 ts j) x = false := by unfold usesL.labAt1; rw [h]; exact hasL_not.2 hx
  simp [this]
theorem usesL_len (ts : List (NT k p n)) (x : Int) (j : Nat) : (usesL ts x j).length ≤ j := by
  unfold usesL
  rw [List.length_map]
  exact Nat.le_trans (List.length_filter_le _ _) (by simp)
theorem usesL_pos {ts : List (NT k p n)} {x : Int} (h : x ∈ occ ts) : 1 ≤ (usesL ts x ts.length).length := by
  obtain ⟨t, ht, hx⟩ := mem_occ.1 h
  obtain ⟨i, hi⟩ := List.getElem?_of_mem ht
  have hil := (List.getElem?_eq_some_iff.1 hi).1
  have : (i : Int) ∈ usesL ts x ts.length := by
    unfold usesL
    refine List.mem_map.2 ⟨i, List.mem_filter.2 ⟨List.mem_range.2 hil, ?_⟩, rfl⟩
    unfold usesL.labAt1
    rw [hi]; exact (hasL_iff _ _).2 hx
  exact List.length_pos_of_mem this
end
set_option maxRecDepth 100000 in
set_option maxHeartbeats 4000000 in
theorem dimOf_any {k p n : Int} (hr : ringOk k p n = true) {dm : Int → Int} {U : List Int} {ts : List (NT k p n)} {op : List Int} (hN : IsN k p n dm U ts op) (tv ov : Value) (w : World) (hT : TensS w tv (ts.map (tenOf dm))) (hO : IntS w ov op) (c : Nat) (hc : c < 100) :
    Calls Try.prog 23 #[.agg #[.int .i64 k, .int .i64 p, .int .i64 n, tv, ov], .int .i64 (c : Int)] w fun e w' => e = .returned (.int .i64 (if hasL (occ ts) (c : Int) = true then dm c else 0)) ∧ Ext w w' := by
  have hT0 := hT
  have hO0 := hO
  obtain ⟨m, hm⟩ : ∃ m, ts.length = m := ⟨_, rfl⟩
  obtain ⟨aV, cV, rfl, hcT1, hcT2⟩ := hT.val
  obtain ⟨aO, cO, rfl, hcO1, hcO2⟩ := hO.val
  rw [List.length_map, hm] at hT hT0 hcT1
  rw [List.length_map, hm]
  have hm12 : m ≤ 12 := by rw [← hm]; exact hN.len
  have hop12 : op.length ≤ 12 := hN.rank
  have HM := Lib.hid hm; have HR := Lib.hid hr; have HN := Lib.hid hN; have HD3 := Lib.hid hN.dims3; clear hm hr hN
  have hTl : Hid ((ts.map (tenOf dm)).length = m) := Lib.hid (by rw [List.length_map]; exact HM.out)
  have hc0 : ¬ (c : Int) < 0 := by omega
  have hc9 : ¬ (99 : Int) < (c : Int) := by omega
  obtain ⟨RS, hRS⟩ : ∃ q, (if hasL (occ ts) (c : Int) = true then dm c else 0) = q := ⟨_, rfl⟩
  have HAC := Lib.hid (arrL_get dm (occ ts) hc)
  rw [hRS] at HAC ⊢
  have HRS := Lib.hid hRS; clear hRS
  have hc1 : (0 : Int) ≤ (c : Int) := by omega
  have hc2 : (c : Int) < 100 := by omega
  go_enter Try.func23, Try.ntmps23
  go_upto_region 1 with fail
  have hH : Held w w [] := Held.new (Ext.refl w) 0
  have hB : Held w (w.alloc (.cells #[.int .i64 k, .int .i64 p, .int .i64 n, .slice aV m cV, .slice aO op.length cO] 29)) [aB (w.heap.size) 29 [.int .i64 k, .int .i64 p, .int .i64 n, .slice aV m cV, .slice aO op.length cO]] := by
    have h := (hH.mores 1).addB 0 #[.int .i64 k, .int .i64 p, .int .i64 n, .slice aV m cV, .slice aO op.length cO] 29
    exact h
  have hsz : (w.alloc (.cells #[.int .i64 k, .int .i64 p, .int .i64 n, .slice aV m cV, .slice aO op.length cO] 29)).heap.size = w.heap.size + 1 := by simp
  generalize w.alloc (.cells #[.int .i64 k, .int .i64 p, .int .i64 n, .slice aV m cV, .slice aO op.length cO] 29) = wn1 at hB hsz ⊢
  replace hH := hB; have HSZwn1 := Lib.hid hsz; clear hB hsz
  have q0_0 := (hH.blk (k := 0) rfl).cell (j := 0) rfl
  have q0_1 := (hH.blk (k := 0) rfl).cell (j := 1) rfl
  have q0_2 := (hH.blk (k := 0) rfl).cell (j := 2) rfl
  have q0_3 := (hH.blk (k := 0) rfl).cell (j := 3) rfl
  have q0_4 := (hH.blk (k := 0) rfl).cell (j := 4) rfl
  have l0_ := (hH.blk (k := 0) rfl).lt
  go_wp2_with fail
  clear q0_0 q0_1 q0_2 q0_3 q0_4 l0_
  refine (networkOk_any HR.out HN.out _ _ _ (hT0.ext hH.ext) (hO0.ext hH.ext)).mono ?_; rintro ewn2 wn2 ⟨rfl, hwn2⟩
  replace hH : Held w wn2 [aB (w.heap.size) 29 [.int .i64 k, .int .i64 p, .int .i64 n, .slice aV m cV, .slice aO op.length cO]] := hH.grow hwn2
  clear hwn2
  have q0_0 := (hH.blk (k := 0) rfl).cell (j := 0) rfl
  have q0_1 := (hH.blk (k := 0) rfl).cell (j := 1) rfl
  have q0_2 := (hH.blk (k := 0) rfl).cell (j := 2) rfl
  have q0_3 := (hH.blk (k := 0) rfl).cell (j := 3) rfl
  have q0_4 := (hH.blk (k := 0) rfl).cell (j := 4) rfl
  have l0_ := (hH.blk (k := 0) rfl).lt
  go_wp2_with fail
  clear q0_0 q0_1 q0_2 q0_3 q0_4 l0_
  refine (dimsOf_any HD3.out (by rw [hTl.out]; omega) _ _ (hT.ext hH.ext)).mono ?_; rintro ewn3 wn3 ⟨rfl, hwn3⟩
  rw [occ3_ten]
  replace hH : Held w wn3 [aB (w.heap.size) 29 [.int .i64 k, .int .i64 p, .int .i64 n, .slice aV m cV, .slice aO op.length cO]] := hH.grow hwn3
  clear hwn3
  go_upto_region 4 with (first | (refine wpList_alloc_arr rfl rfl ?_) | (refine wpList_store_arr (A0 := (List.replicate 100 0)) rfl _ _ rfl rfl rfl (by have h := Blk.new wn3 (arrV (List.replicate 100 0)) 99; rw [arrV_list] at h; exact h) (arrL_length _ _) (List.length_replicate ..) ?_; rintro wn4 hg hB hs))
  replace hH : Held w wn4 [aB (w.heap.size) 29 [.int .i64 k, .int .i64 p, .int .i64 n, .slice aV m cV, .slice aO op.length cO], aB (wn3.heap.size) 99 (ints (arrL dm (occ ts)))] := (hH.mores 1).add 1 (((Ext.refl _).alloc _).only hg (fun q hq => by cases hq; exact Nat.le_refl _)) hB (fun q hq => by simp [aB] at hq; subst hq; exact Nat.le_refl _)
  clear hg hB hs
  have hcA := (hH.blk (k := 1) rfl).cell (j := c) (u := .int .i64 RS) (by rw [ints_get, HAC.out]; rfl)
  have hlA := (hH.blk (k := 1) rfl).lt
  have HE := Lib.hid hH.ext; clear hH
  go_wp2
  go_ret
  exact ⟨rfl, HE.out⟩
set_option maxRecDepth 100000 in
set_option maxHeartbeats 4000000 in
theorem usesOf_any {k p n : Int} (hr : ringOk k p n = true) {dm : Int → Int} {U : List Int} {ts : List (NT k p n)} {op : List Int} (hN : IsN k p n dm U ts op) (tv ov : Value) (w : World) (hT : TensS w tv (ts.map (tenOf dm))) (hO : IntS w ov op) (x : Int) :
    Calls Try.prog 24 #[.agg #[.int .i64 k, .int .i64 p, .int .i64 n, tv, ov], .int .i64 x] w fun e w' => ∃ u, e = .returned u ∧ OwnI w' w.heap.size u (usesL ts x ts.length) ∧ Ext w w' := by
  have hT0 := hT
  have hO0 := hO
  obtain ⟨m, hm⟩ : ∃ m, ts.length = m := ⟨_, rfl⟩
  obtain ⟨aV, cV, rfl, hcT1, hcT2⟩ := hT.val
  obtain ⟨aO, cO, rfl, hcO1, hcO2⟩ := hO.val
  rw [List.length_map, hm] at hT hT0 hcT1
  rw [List.length_map, hm]
  have hm12 : m ≤ 12 := by rw [← hm]; exact hN.len
  have hop12 : op.length ≤ 12 := hN.rank
  have HM := Lib.hid hm; have HR := Lib.hid hr; have HN := Lib.hid hN; have HD3 := Lib.hid hN.dims3; clear hm hr hN
  have hTl : Hid ((ts.map (tenOf dm)).length = m) := Lib.hid (by rw [List.length_map]; exact HM.out)
  go_enter Try.func24, Try.ntmps24
  go_upto_region 1 with fail
  have hH : Held w w [] := Held.new (Ext.refl w) 0
  have hB : Held w (w.alloc (.cells #[.int .i64 k, .int .i64 p, .int .i64 n, .slice aV m cV, .slice aO op.length cO] 29)) [aB (w.heap.size) 29 [.int .i64 k, .int .i64 p, .int .i64 n, .slice aV m cV, .slice aO op.length cO]] := by
    have h := (hH.mores 1).addB 0 #[.int .i64 k, .int .i64 p, .int .i64 n, .slice aV m cV, .slice aO op.length cO] 29
    exact h
  have hsz : (w.alloc (.cells #[.int .i64 k, .int .i64 p, .int .i64 n, .slice aV m cV, .slice aO op.length cO] 29)).heap.size = w.heap.size + 1 := by simp
  generalize w.alloc (.cells #[.int .i64 k, .int .i64 p, .int .i64 n, .slice aV m cV, .slice aO op.length cO] 29) = wn1 at hB hsz ⊢
  replace hH := hB; have HSZwn1 := Lib.hid hsz; clear hB hsz
  have q0_0 := (hH.blk (k := 0) rfl).cell (j := 0) rfl
  have q0_1 := (hH.blk (k := 0) rfl).cell (j := 1) rfl
  have q0_2 := (hH.blk (k := 0) rfl).cell (j := 2) rfl
  have q0_3 := (hH.blk (k := 0) rfl).cell (j := 3) rfl
  have q0_4 := (hH.blk (k := 0) rfl).cell (j := 4) rfl
  have l0_ := (hH.blk (k := 0) rfl).lt
  go_wp2_with fail
  clear q0_0 q0_1 q0_2 q0_3 q0_4 l0_
  refine (networkOk_any HR.out HN.out _ _ _ (hT0.ext hH.ext) (hO0.ext hH.ext)).mono ?_; rintro ewn2 wn2 ⟨rfl, hwn2⟩
  replace hH : Held w wn2 [aB (w.heap.size) 29 [.int .i64 k, .int .i64 p, .int .i64 n, .slice aV m cV, .slice aO op.length cO]] := hH.grow hwn2
  clear hwn2
  have q0_0 := (hH.blk (k := 0) rfl).cell (j := 0) rfl
  have q0_1 := (hH.blk (k := 0) rfl).cell (j := 1) rfl
  have q0_2 := (hH.blk (k := 0) rfl).cell (j := 2) rfl
  have q0_3 := (hH.blk (k := 0) rfl).cell (j := 3) rfl
  have q0_4 := (hH.blk (k := 0) rfl).cell (j := 4) rfl
  have l0_ := (hH.blk (k := 0) rfl).lt
  go_wp2_with fail
  clear q0_0 q0_1 q0_2 q0_3 q0_4 l0_
  replace hH := hH.nilI
  replace hH : Held w wn2 [aB (w.heap.size) 29 [.int .i64 k, .int .i64 p, .int .i64 n, .slice aV m cV, .slice aO op.length cO], aI (.slice none 0 0) []] := hH
  go_loopw [5, 14] (fun vl i wr => ∃ j : Nat, j ≤ m ∧ i = .int .i64 (j : Int) ∧ Held w wr [aB (w.heap.size) 29 [.int .i64 k, .int .i64 p, .int .i64 n, .slice aV m cV, .slice aO op.length cO], aI vl (usesL ts x j)]) (fun vl i wr => m - (RowKit.intOf i).toNat)
  case atStart => exact ⟨0, Nat.zero_le _, rfl, hH⟩
  case round =>
    clear hH
    rename_i vl
    obtain ⟨j, hj, rfl, hH⟩ := hrel
    obtain ⟨UL, hUL⟩ : ∃ q, usesL ts x j = q := ⟨_, rfl⟩
    have hul := usesL_len ts x j
    rw [hUL] at hH hul
    have HUL := Lib.hid hUL; clear hUL
    obtain ⟨al, cl, rfl⟩ := (hH.own (k := 1) rfl).shape1 UL.length rfl
    obtain ⟨wq, rfl⟩ : ∃ q, q = wr := ⟨wr, rfl⟩
    by_cases hlt : j < m
    · skip
      obtain ⟨bT, oT, u1, u2, u3, t3, hV, hu0, hu1, hu2, ht3, hTu⟩ := hT.get (i := j) (by rw [hTl.out]; exact hlt)
      subst hV
      obtain ⟨t, htj, rfl⟩ : ∃ t, ts[j]? = some t ∧ tenOf dm t = t3 := by rw [List.getElem?_map] at ht3; exact Option.map_eq_some_iff.1 ht3
      have HTJ := Lib.hid htj; have HTI := Lib.hid (HN.out.ten t (List.mem_of_getElem? htj)); clear ht3 htj
      obtain ⟨tl, xs⟩ := t
      obtain ⟨e1, m1, f1, e2, m2, f2, e3, m3, f3, hvv⟩ := hTu.shape
      simp at hvv
      obtain ⟨rfl, rfl, rfl⟩ := hvv
      rw [Nat.mul_comm 3 j] at hu0 hu1 hu2
      obtain ⟨_, _, _, hvv, hTL, hTD, hTX⟩ := hTu.val
      simp at hvv
      obtain ⟨rfl, rfl, rfl⟩ := hvv
      simp only [tenOf] at hTu hTL hTD hTX HTI
      obtain ⟨_, _, hvv, _, _⟩ := hTL.val
      simp at hvv
      obtain ⟨rfl, rfl, rfl⟩ := hvv
      obtain ⟨_, _, hvv, _, _⟩ := hTD.val
      simp at hvv
      obtain ⟨rfl, rfl, rfl⟩ := hvv
      have q0_0 := (hH.blk (k := 0) rfl).cell (j := 0) rfl
      have q0_1 := (hH.blk (k := 0) rfl).cell (j := 1) rfl
      have q0_2 := (hH.blk (k := 0) rfl).cell (j := 2) rfl
      have q0_3 := (hH.blk (k := 0) rfl).cell (j := 3) rfl
      have q0_4 := (hH.blk (k := 0) rfl).cell (j := 4) rfl
      have l0_ := (hH.blk (k := 0) rfl).lt
      have c_hu0 := hH.ext.cell hu0
      have c_hu1 := hH.ext.cell hu1
      have c_hu2 := hH.ext.cell hu2
      go_upto_region 7 with fail
      clear q0_0 q0_1 q0_2 q0_3 q0_4 l0_ c_hu0 c_hu1 c_hu2
      have hB : Held w (wq.alloc (.cells #[.slice e1 tl.length f1, .slice e2 tl.length f2, .slice e3 m3 f3] 32)) [aB (w.heap.size) 29 [.int .i64 k, .int .i64 p, .int .i64 n, .slice (some ⟨bT, oT, none⟩) m cV, .slice aO op.length cO], aI (.slice al UL.length cl) UL, aB (wq.heap.size) 32 [.slice e1 tl.length f1, .slice e2 tl.length f2, .slice e3 m3 f3]] := by
        have h := (hH.mores 1).addB 2 #[.slice e1 tl.length f1, .slice e2 tl.length f2, .slice e3 m3 f3] 32
        exact h
      have hsz : (wq.alloc (.cells #[.slice e1 tl.length f1, .slice e2 tl.length f2, .slice e3 m3 f3] 32)).heap.size = wq.heap.size + 1 := by simp
      generalize wq.alloc (.cells #[.slice e1 tl.length f1, .slice e2 tl.length f2, .slice e3 m3 f3] 32) = wn3 at hB hsz ⊢
      replace hH := hB; have HSZwn3 := Lib.hid hsz; clear hB hsz
      have q0_0 := (hH.blk (k := 0) rfl).cell (j := 0) rfl
      have q0_1 := (hH.blk (k := 0) rfl).cell (j := 1) rfl
      have q0_2 := (hH.blk (k := 0) rfl).cell (j := 2) rfl
      have q0_3 := (hH.blk (k := 0) rfl).cell (j := 3) rfl
      have q0_4 := (hH.blk (k := 0) rfl).cell (j := 4) rfl
      have l0_ := (hH.blk (k := 0) rfl).lt
      have q2_0 := (hH.blk (k := 2) rfl).cell (j := 0) rfl
      have q2_1 := (hH.blk (k := 2) rfl).cell (j := 1) rfl
      have q2_2 := (hH.blk (k := 2) rfl).cell (j := 2) rfl
      have l2_ := (hH.blk (k := 2) rfl).lt
      have c_hu0 := hH.ext.cell hu0
      have c_hu1 := hH.ext.cell hu1
      have c_hu2 := hH.ext.cell hu2
      go_wp2_with fail
      clear q0_0 q0_1 q0_2 q0_3 q0_4 l0_ q2_0 q2_1 q2_2 l2_ c_hu0 c_hu1 c_hu2
      refine (axisOf_any _ tl (tl.map dm) (flat xs) x _ (hTu.ext hH.ext)).mono ?_; rintro ewn4 wn4 ⟨rfl, hwn4⟩
      replace hH : Held w wn4 [aB (w.heap.size) 29 [.int .i64 k, .int .i64 p, .int .i64 n, .slice (some ⟨bT, oT, none⟩) m cV, .slice aO op.length cO], aI (.slice al UL.length cl) UL, aB (wq.heap.size) 32 [.slice e1 tl.length f1, .slice e2 tl.length f2, .slice e3 m3 f3]] := hH.grow hwn4
      clear hwn4
      by_cases hx : x ∈ tl
      · skip
        have hf := findL_pos ((hasL_iff _ _).2 hx)
        have hf0 : 0 ≤ findL tl x := hf.1
        have HS := Lib.hid (usesL_yes HTJ.out hx); rw [HUL.out] at HS
        clear hf hx
        have q0_0 := (hH.blk (k := 0) rfl).cell (j := 0) rfl
        have q0_1 := (hH.blk (k := 0) rfl).cell (j := 1) rfl
        have q0_2 := (hH.blk (k := 0) rfl).cell (j := 2) rfl
        have q0_3 := (hH.blk (k := 0) rfl).cell (j := 3) rfl
        have q0_4 := (hH.blk (k := 0) rfl).cell (j := 4) rfl
        have l0_ := (hH.blk (k := 0) rfl).lt
        have q2_0 := (hH.blk (k := 2) rfl).cell (j := 0) rfl
        have q2_1 := (hH.blk (k := 2) rfl).cell (j := 1) rfl
        have q2_2 := (hH.blk (k := 2) rfl).cell (j := 2) rfl
        have l2_ := (hH.blk (k := 2) rfl).lt
        have c_hu0 := hH.ext.cell hu0
        have c_hu1 := hH.ext.cell hu1
        have c_hu2 := hH.ext.cell hu2
        go_wp2_with (at_builtin; refine wpList_app _ rfl _ _ 27 rfl _ _ rfl rfl _ (run_push _ _ w.heap.size _ UL (j : Int) (hH.own (k := 1) rfl) (by omega) hH.size) ?_; rintro v6 w6 ⟨o6, g6, n6⟩)
        have hHq := hH.pushed (k := 1) rfl o6 g6 n6
        go_roundw
        case rel => exact ⟨j + 1, by omega, by go_num, by rw [HS.out]; exact hHq.sub (.cons_cons _ (.cons_cons _ (.cons _ .slnil)))⟩
        case measure => simp [RowKit.intOf]; omega
      · skip
        have hf : findL tl x = -1 := findL_neg (hasL_not.2 hx)
        rw [hf]
        have HS := Lib.hid (usesL_no HTJ.out hx); rw [HUL.out] at HS
        clear hf hx
        have q0_0 := (hH.blk (k := 0) rfl).cell (j := 0) rfl
        have q0_1 := (hH.blk (k := 0) rfl).cell (j := 1) rfl
        have q0_2 := (hH.blk (k := 0) rfl).cell (j := 2) rfl
        have q0_3 := (hH.blk (k := 0) rfl).cell (j := 3) rfl
        have q0_4 := (hH.blk (k := 0) rfl).cell (j := 4) rfl
        have l0_ := (hH.blk (k := 0) rfl).lt
        have q2_0 := (hH.blk (k := 2) rfl).cell (j := 0) rfl
        have q2_1 := (hH.blk (k := 2) rfl).cell (j := 1) rfl
        have q2_2 := (hH.blk (k := 2) rfl).cell (j := 2) rfl
        have l2_ := (hH.blk (k := 2) rfl).lt
        have c_hu0 := hH.ext.cell hu0
        have c_hu1 := hH.ext.cell hu1
        have c_hu2 := hH.ext.cell hu2
        go_wp2_with fail
        clear q0_0 q0_1 q0_2 q0_3 q0_4 l0_ q2_0 q2_1 q2_2 l2_ c_hu0 c_hu1 c_hu2
        have hHq := hH
        go_roundw
        case rel => exact ⟨j + 1, by omega, by go_num, by rw [HS.out]; exact hHq.sub (.cons_cons _ (.cons_cons _ (.cons _ .slnil)))⟩
        case measure => simp [RowKit.intOf]; omega
    · skip
      have hje : j = m := by omega
      subst hje
      have HO := Lib.hid (hH.own (k := 1) rfl); have HE := Lib.hid hH.ext; clear hH
      go_wp2
      go_ret
      exact ⟨_, rfl, by rw [HUL.out]; exact HO.out, HE.out⟩
/-- A struct's second part. -/
def pt1 : Value → Value
  | .agg xs => (xs.toList.drop 1).headD undef
  | _ => undef
theorem pt1_mk (x y z : Value) : pt1 (.agg #[x, y, z]) = y := rfl
set_option maxRecDepth 100000 in
set_option maxHeartbeats 4000000 in
theorem assignmentOk_any {k p n : Int} (hr : ringOk k p n = true) {dm : Int → Int} {U : List Int} {ts : List (NT k p n)} {op : List Int} (hN : IsN k p n dm U ts op) (tv ov : Value) (w : World) (hT : TensS w tv (ts.map (tenOf dm))) (hO : IntS w ov op) {AL : List Int} (hAL : ascL (occ ts) = AL) (I : List Int) (hI : idxOk (AL.map dm) I = true) (vv : Value) (hVv : IntS w vv I) :
    Calls Try.prog 102 #[.agg #[.int .i64 k, .int .i64 p, .int .i64 n, tv, ov], vv] w fun e w' => e = .returned (.bool true) ∧ Ext w w' := by
  have hT0 := hT
  have hO0 := hO
  obtain ⟨m, hm⟩ : ∃ m, ts.length = m := ⟨_, rfl⟩
  obtain ⟨aV, cV, rfl, hcT1, hcT2⟩ := hT.val
  obtain ⟨aO, cO, rfl, hcO1, hcO2⟩ := hO.val
  rw [List.length_map, hm] at hT hT0 hcT1
  rw [List.length_map, hm]
  have hm12 : m ≤ 12 := by rw [← hm]; exact hN.len
  have hop12 : op.length ≤ 12 := hN.rank
  have HM := Lib.hid hm; have HR := Lib.hid hr; have HN := Lib.hid hN; have HD3 := Lib.hid hN.dims3; clear hm hr hN
  have hTl : Hid ((ts.map (tenOf dm)).length = m) := Lib.hid (by rw [List.length_map]; exact HM.out)
  have HAL := Lib.hid hAL; have HI := Lib.hid hI; have HAD : Hid (∀ x ∈ occ ts, 1 ≤ dm x) := Lib.hid fun x hx => (HN.out.opDim hx).1
  have HAIn : Hid (∀ x ∈ AL, (0 ≤ x ∧ x ≤ 99) ∧ x ∈ occ ts) := Lib.hid fun x hx => by rw [← hAL] at hx; exact mem_ascL.1 hx
  have hal12 : AL.length ≤ 12 := by rw [← hAL]; exact (HN.out.uni.ax HN.out.ascSub).rank
  have HDM : Hid (∀ d ∈ AL.map dm, 1 ≤ d ∧ d ≤ 8) := Lib.hid (by rw [← hAL]; exact (HN.out.uni.ax HN.out.ascSub).dims)
  clear hAL hI
  obtain ⟨av, cv, rfl, _, _⟩ := hVv.val
  go_enter Try.func102, Try.ntmps102
  go_upto_region 1 with fail
  have hH : Held w w [] := Held.new (Ext.refl w) 0
  have hB : Held w (w.alloc (.cells #[.int .i64 k, .int .i64 p, .int .i64 n, .slice aV m cV, .slice aO op.length cO] 29)) [aB (w.heap.size) 29 [.int .i64 k, .int .i64 p, .int .i64 n, .slice aV m cV, .slice aO op.length cO]] := by
    have h := (hH.mores 1).addB 0 #[.int .i64 k, .int .i64 p, .int .i64 n, .slice aV m cV, .slice aO op.length cO] 29
    exact h
  have hsz : (w.alloc (.cells #[.int .i64 k, .int .i64 p, .int .i64 n, .slice aV m cV, .slice aO op.length cO] 29)).heap.size = w.heap.size + 1 := by simp
  generalize w.alloc (.cells #[.int .i64 k, .int .i64 p, .int .i64 n, .slice aV m cV, .slice aO op.length cO] 29) = wn1 at hB hsz ⊢
  replace hH := hB; have HSZwn1 := Lib.hid hsz; clear hB hsz
  have q0_0 := (hH.blk (k := 0) rfl).cell (j := 0) rfl
  have q0_1 := (hH.blk (k := 0) rfl).cell (j := 1) rfl
  have q0_2 := (hH.blk (k := 0) rfl).cell (j := 2) rfl
  have q0_3 := (hH.blk (k := 0) rfl).cell (j := 3) rfl
  have q0_4 := (hH.blk (k := 0) rfl).cell (j := 4) rfl
  have l0_ := (hH.blk (k := 0) rfl).lt
  go_wp2_with fail
  clear q0_0 q0_1 q0_2 q0_3 q0_4 l0_
  refine (networkOk_any HR.out HN.out _ _ _ (hT0.ext hH.ext) (hO0.ext hH.ext)).mono ?_; rintro ewn2 wn2 ⟨rfl, hwn2⟩
  replace hH : Held w wn2 [aB (w.heap.size) 29 [.int .i64 k, .int .i64 p, .int .i64 n, .slice aV m cV, .slice aO op.length cO]] := hH.grow hwn2
  clear hwn2
  have q0_0 := (hH.blk (k := 0) rfl).cell (j := 0) rfl
  have q0_1 := (hH.blk (k := 0) rfl).cell (j := 1) rfl
  have q0_2 := (hH.blk (k := 0) rfl).cell (j := 2) rfl
  have q0_3 := (hH.blk (k := 0) rfl).cell (j := 3) rfl
  have q0_4 := (hH.blk (k := 0) rfl).cell (j := 4) rfl
  have l0_ := (hH.blk (k := 0) rfl).lt
  go_wp2_with fail
  clear q0_0 q0_1 q0_2 q0_3 q0_4 l0_
  refine (dimsOf_any HD3.out (by rw [hTl.out]; omega) _ _ (hT.ext hH.ext)).mono ?_; rintro ewn3 wn3 ⟨rfl, hwn3⟩
  rw [occ3_ten]
  replace hH : Held w wn3 [aB (w.heap.size) 29 [.int .i64 k, .int .i64 p, .int .i64 n, .slice aV m cV, .slice aO op.length cO]] := hH.grow hwn3
  clear hwn3
  go_upto_region 4 with (first | (refine wpList_alloc_arr rfl rfl ?_) | (refine wpList_store_arr (A0 := (List.replicate 100 0)) rfl _ _ rfl rfl rfl (by have h := Blk.new wn3 (arrV (List.replicate 100 0)) 99; rw [arrV_list] at h; exact h) (arrL_length _ _) (List.length_replicate ..) ?_; rintro wn4 hg hB hs))
  replace hH : Held w wn4 [aB (w.heap.size) 29 [.int .i64 k, .int .i64 p, .int .i64 n, .slice aV m cV, .slice aO op.length cO], aB (wn3.heap.size) 99 (ints (arrL dm (occ ts)))] := (hH.mores 1).add 1 (((Ext.refl _).alloc _).only hg (fun q hq => by cases hq; exact Nat.le_refl _)) hB (fun q hq => by simp [aB] at hq; subst hq; exact Nat.le_refl _)
  clear hg hB hs
  replace hH := hH.mores 2
  replace hH : Held w wn4 [aB (w.heap.size) 29 [.int .i64 k, .int .i64 p, .int .i64 n, .slice aV m cV, .slice aO op.length cO], aB (wn3.heap.size) 99 (ints (arrL dm (occ ts))), emp, emp] := hH
  refine wp_region_steps ?Fa (fun b t wx => Held w wx [aB (w.heap.size) 29 [.int .i64 k, .int .i64 p, .int .i64 n, .slice aV m cV, .slice aO op.length cO], aB (wn3.heap.size) 99 (ints (arrL dm (occ ts))), (bif b 2 then aI (t 2) AL else emp), (bif b 3 then aT (t 3) AL (AL.map dm) [] else emp)] ∧ (b 0 = true → t 0 = .agg (arrV (arrL dm (occ ts)))) ∧ (b 1 = true → t 1 = .agg (arrV (arrL dm (occ ts)))) ∧ (b 2 = true → ∃ x c, t 2 = .slice x AL.length c) ∧ (b 3 = true → ∃ p1 c1 p2 c2 p3 c3, t 3 = .agg #[.slice p1 AL.length c1, .slice p2 AL.length c2, .slice p3 0 c3]) ∧ (b 4 = true → t 4 = pt1 (t 3)) ∧ (b 5 = true → t 5 = .slice av I.length cv) ∧ (b 6 = true → t 6 = .bool true) ∧ (b 7 = true → t 7 = .bool true)) ?hFa (by kernel_rfl) (by kernel_rfl) ?hJa ?hSa ?hEa
  (case hFa => intro t; simp only [putAll, Act.put, List.setIfInBounds_toArray, List.set_cons_zero, List.set_cons_succ, Nat.reduceAdd, Nat.zero_add]; exact rfl)
  case hJa => exact ⟨hH.grow ((Ext.refl _).drew), fun h => absurd h Bool.false_ne_true, fun h => absurd h Bool.false_ne_true, fun h => absurd h Bool.false_ne_true, fun h => absurd h Bool.false_ne_true, fun h => absurd h Bool.false_ne_true, fun h => absurd h Bool.false_ne_true, fun h => absurd h Bool.false_ne_true, fun h => absurd h Bool.false_ne_true⟩
  case hSa =>
    as_aux_lemma =>
      refine AllSteps.cons (j := 1) rfl (fun b t wx hJ hb hd hcl Kc hK => ?_) ?_
      · obtain ⟨hH, v0, v1, v2, v3, v4, v5, v6, v7⟩ := hJ
        refine step_load_arr rfl _ rfl rfl (hH.blk (k := 1) rfl) (arrL_length _ _) ?_
        refine hK.out _ ?_ _ ?_ ?_; rotate_left 2
        · rfl
        exact ⟨hH, fun _ => rfl, v1, v2, v3, v4, v5, v6, v7⟩
      refine AllSteps.cons (j := 2) rfl (fun b t wx hJ hb hd hcl Kc hK => ?_) ?_
      · obtain ⟨hH, v0, v1, v2, v3, v4, v5, v6, v7⟩ := hJ
        refine step_load_arr rfl _ rfl rfl (hH.blk (k := 1) rfl) (arrL_length _ _) ?_
        refine hK.out _ ?_ _ ?_ ?_; rotate_left 2
        · rfl
        exact ⟨hH, v0, fun _ => rfl, v2, v3, v4, v5, v6, v7⟩
      refine AllSteps.cons (j := 3) rfl (fun b t wx hJ hb hd hcl Kc hK => ?_) ?_
      · obtain ⟨hH, v0, v1, v2, v3, v4, v5, v6, v7⟩ := hJ
        have d1 : b 1 = true := hd.out 1 (by kernel_rfl)
        have r1 := v1 d1
        have hN := hH; (try simp only [hb, d1, cond_true, cond_false] at hN)
        go_simp
        go_at_call 89
        refine (occurring_any HAD.out _).mono ?_; rintro e2 w2 ⟨v2, rfl, o2, h2⟩
        rw [HAL.out] at o2
        obtain ⟨x2, c2, rfl, _, _⟩ := o2.ints.val
        (try go_simp)
        refine hK.out _ ?_ _ ?_ ?_; rotate_left 2
        · (try simp only [r1]); rfl
        exact ⟨by have hX := hN.addI 2 h2 o2 (Nat.le_refl _); (try simp only [List.set_cons_zero, List.set_cons_succ] at hX); simpa only [updB, updV, blkOf_mk, tup0_mk, partsOf3, pt1_mk, Nat.reduceBEq, cond_true, cond_false, hb, d1, r1] using hX, v0, v1, fun _ => ⟨_, _, rfl⟩, v3, v4, v5, v6, v7⟩
      refine AllSteps.cons (j := 4) rfl (fun b t wx hJ hb hd hcl Kc hK => ?_) ?_
      · obtain ⟨hH, v0, v1, v2, v3, v4, v5, v6, v7⟩ := hJ
        have d0 : b 0 = true := hd.out 0 (by kernel_rfl)
        have d2 : b 2 = true := hd.out 2 (by kernel_rfl)
        have n4 : b 4 = false := Bool.eq_false_iff.2 fun h => absurd (hcl.out 4 3 (by kernel_rfl) (h)) (by rw [hb]; exact Bool.false_ne_true)
        have r0 := v0 d0
        have r2 := v2 d2
        obtain ⟨x_2, c_2, r2⟩ := r2
        have hN := hH; (try simp only [hb, d0, d2, n4, cond_true, cond_false] at hN)
        rw [r2] at hN -- d2
        have hL2 := hN.ints (k := 2) rfl
        go_simp
        go_at_call 104
        refine (axesOf_ten HAIn.out (by omega) _ _ hL2).mono ?_; rintro e3 w3 ⟨v3, rfl, o3, h3⟩
        obtain ⟨p1, c1, p2, c2, p3, c3, rfl⟩ := o3.shape3 (AL.length) (AL.length) (0) rfl (by rw [List.length_map]) rfl
        (try go_simp)
        refine hK.out _ ?_ _ ?_ ?_; rotate_left 2
        · (try simp only [r0, r2]); rfl
        exact ⟨by have hX := hN.addT 3 h3 o3 (Nat.le_refl _); (try simp only [List.set_cons_zero, List.set_cons_succ] at hX); simpa only [updB, updV, blkOf_mk, tup0_mk, partsOf3, pt1_mk, Nat.reduceBEq, cond_true, cond_false, hb, d0, d2, n4, r0, r2] using hX, v0, v1, v2, fun _ => ⟨_, _, _, _, _, _, rfl⟩, fun h => absurd (show b 4 = true from h) (by rw [n4]; exact Bool.false_ne_true), v5, v6, v7⟩
      refine AllSteps.cons (j := 5) rfl (fun b t wx hJ hb hd hcl Kc hK => ?_) ?_
      · obtain ⟨hH, v0, v1, v2, v3, v4, v5, v6, v7⟩ := hJ
        have d3 : b 3 = true := hd.out 3 (by kernel_rfl)
        have r3 := v3 d3
        obtain ⟨p1_3, c1_3, p2_3, c2_3, p3_3, c3_3, r3⟩ := r3
        have e3 := r3 -- d3
        go_simp
        refine hK.out _ ?_ _ ?_ ?_; rotate_left 2
        · (try simp only [r3]); rfl
        exact ⟨hH, v0, v1, v2, v3, fun _ => (by show _ = pt1 (t 3); rw [r3]; rfl), v5, v6, v7⟩
      refine AllSteps.cons (j := 6) rfl (fun b t wx hJ hb hd hcl Kc hK => ?_) ?_
      · obtain ⟨hH, v0, v1, v2, v3, v4, v5, v6, v7⟩ := hJ
        go_simp
        refine hK.out _ ?_ _ ?_ ?_; rotate_left 2
        · rfl
        exact ⟨hH, v0, v1, v2, v3, v4, fun _ => rfl, v6, v7⟩
      refine AllSteps.cons (j := 7) rfl (fun b t wx hJ hb hd hcl Kc hK => ?_) ?_
      · obtain ⟨hH, v0, v1, v2, v3, v4, v5, v6, v7⟩ := hJ
        have d3 : b 3 = true := hd.out 3 (by kernel_rfl)
        have d4 : b 4 = true := hd.out 4 (by kernel_rfl)
        have d5 : b 5 = true := hd.out 5 (by kernel_rfl)
        have r3 := v3 d3
        have r4 := v4 d4
        have r5 := v5 d5
        obtain ⟨p1_3, c1_3, p2_3, c2_3, p3_3, c3_3, r3⟩ := r3
        have hN := hH; (try simp only [hb, d3, d4, d5, cond_true, cond_false] at hN)
        rw [r3, pt1_mk] at r4 -- d3 d4
        rw [r3] at hN -- d3
        have hLD := (hN.parts (k := 3) rfl).2.1.ints
        go_simp
        go_at_call 164
        refine (indexOk_yes _ _ (AL.map dm) I _ hLD (hVv.ext hH.ext) HI.out HDM.out).mono ?_; rintro e6 w6 ⟨rfl, rfl⟩
        (try go_simp)
        refine hK.out _ ?_ _ ?_ ?_; rotate_left 2
        · (try simp only [r3, r4, r5]); rfl
        exact ⟨by have hX := hN; (try simp only [List.set_cons_zero, List.set_cons_succ] at hX); simpa only [updB, updV, blkOf_mk, tup0_mk, partsOf3, pt1_mk, Nat.reduceBEq, cond_true, cond_false, hb, d3, d4, d5, r3, r4, r5] using hX, v0, v1, v2, v3, v4, v5, fun _ => rfl, v7⟩
      refine AllSteps.cons (j := 8) rfl (fun b t wx hJ hb hd hcl Kc hK => ?_) ?_
      · obtain ⟨hH, v0, v1, v2, v3, v4, v5, v6, v7⟩ := hJ
        have d0 : b 0 = true := hd.out 0 (by kernel_rfl)
        have d1 : b 1 = true := hd.out 1 (by kernel_rfl)
        have d2 : b 2 = true := hd.out 2 (by kernel_rfl)
        have d3 : b 3 = true := hd.out 3 (by kernel_rfl)
        have d4 : b 4 = true := hd.out 4 (by kernel_rfl)
        have d5 : b 5 = true := hd.out 5 (by kernel_rfl)
        have d6 : b 6 = true := hd.out 6 (by kernel_rfl)
        have r0 := v0 d0
        have r1 := v1 d1
        have r2 := v2 d2
        have r3 := v3 d3
        have r4 := v4 d4
        have r5 := v5 d5
        have r6 := v6 d6
        obtain ⟨x_2, c_2, r2⟩ := r2
        obtain ⟨p1_3, c1_3, p2_3, c2_3, p3_3, c3_3, r3⟩ := r3
        go_simp
        refine hK.out _ ?_ _ ?_ ?_; rotate_left 2
        · (try simp only [r0, r1, r2, r3, r4, r5, r6]); rfl
        exact ⟨hH, v0, v1, v2, v3, v4, v5, v6, fun _ => rfl⟩
      exact AllSteps.nil
  case hEa =>
    intro b t wa hJ hall
    obtain ⟨hHa, v0, v1, v2, v3, v4, v5, v6, v7⟩ := hJ
    have a0 : b 0 = true := hall 0 (by decide)
    have a1 : b 1 = true := hall 1 (by decide)
    have a2 : b 2 = true := hall 2 (by decide)
    have a3 : b 3 = true := hall 3 (by decide)
    have a4 : b 4 = true := hall 4 (by decide)
    have a5 : b 5 = true := hall 5 (by decide)
    have a6 : b 6 = true := hall 6 (by decide)
    have a7 : b 7 = true := hall 7 (by decide)
    (try simp only [a0, a1, a2, a3, a4, a5, a6, a7, cond_true] at hHa)
    replace v0 := v0 a0
    replace v1 := v1 a1
    replace v2 := v2 a2
    replace v3 := v3 a3
    replace v4 := v4 a4
    replace v5 := v5 a5
    replace v6 := v6 a6
    replace v7 := v7 a7
    clear hall a0 a1 a2 a3 a4 a5 a6 a7
    generalize t 7 = x7 at hHa v7 ⊢
    generalize t 6 = x6 at hHa v6 ⊢
    generalize t 5 = x5 at hHa v5 ⊢
    generalize t 4 = x4 at hHa v4 ⊢
    generalize t 3 = x3 at hHa v3 v4 ⊢
    generalize t 2 = x2 at hHa v2 ⊢
    generalize t 1 = x1 at hHa v1 ⊢
    generalize t 0 = x0 at hHa v0 ⊢
    subst v0
    subst v1
    obtain ⟨xa2, ca2, rfl⟩ := v2
    obtain ⟨p1a3, c1a3, p2a3, c2a3, p3a3, c3a3, rfl⟩ := v3
    subst v4
    subst v5
    subst v6
    subst v7
    clear b
    replace hH := hHa; clear hHa
    replace hH : Held w wa [aB (w.heap.size) 29 [.int .i64 k, .int .i64 p, .int .i64 n, .slice aV m cV, .slice aO op.length cO], aB (wn3.heap.size) 99 (ints (arrL dm (occ ts))), aI (.slice xa2 AL.length ca2) AL, aT (.agg #[.slice p1a3 AL.length c1a3, .slice p2a3 AL.length c2a3, .slice p3a3 0 c3a3]) AL (AL.map dm) []] := hH
    have HE := Lib.hid hH.ext; clear hH
    go_wp2
    go_ret
    exact ⟨rfl, HE.out⟩
set_option maxRecDepth 100000 in
set_option maxHeartbeats 8000000 in
theorem rawWeight_any {k p n : Int} (hr : ringOk k p n = true) {dm : Int → Int} {U : List Int} {ts : List (NT k p n)} {op : List Int} (hN : IsN k p n dm U ts op) (tv ov : Value) (w : World) (hT : TensS w tv (ts.map (tenOf dm))) (hO : IntS w ov op) {AL : List Int} (hAL : ascL (occ ts) = AL) (o : Nat) (lv vv : Value) (hLv : IntS w lv AL) (hVv : IntS w vv (AL.map (asg (axs dm AL) o σ0))) :
    Calls Try.prog 103 #[.agg #[.int .i64 k, .int .i64 p, .int .i64 n, tv, ov], lv, vv] w fun e w' => ∃ u, e = .returned u ∧ OwnI w' w.heap.size u (netF hr dm ts (asg (axs dm AL) o σ0)).1 ∧ Ext w w' := by
  have hT0 := hT
  have hO0 := hO
  obtain ⟨m, hm⟩ : ∃ m, ts.length = m := ⟨_, rfl⟩
  obtain ⟨aV, cV, rfl, hcT1, hcT2⟩ := hT.val
  obtain ⟨aO, cO, rfl, hcO1, hcO2⟩ := hO.val
  rw [List.length_map, hm] at hT hT0 hcT1
  rw [List.length_map, hm]
  have hm12 : m ≤ 12 := by rw [← hm]; exact hN.len
  have hop12 : op.length ≤ 12 := hN.rank
  have HM := Lib.hid hm; have HR := Lib.hid hr; have HN := Lib.hid hN; have HD3 := Lib.hid hN.dims3; clear hm  hN
  have hTl : Hid ((ts.map (tenOf dm)).length = m) := Lib.hid (by rw [List.length_map]; exact HM.out)
  have hw := ringOk_wide hr
  have hf := ringOk_fit hr
  obtain ⟨W, hW⟩ : ∃ W : Nat, ringWidth k n = (W : Int) := ⟨(ringWidth k n).toNat, by have := hw.lo; omega⟩
  have hW1 : 1 ≤ W := by have := hw.lo; omega
  have hW6 : W ≤ 6 := by have := hw.hi; omega
  have HWW := Lib.hid hW; clear hW
  have SA : Hid (Sub U AL) := Lib.hid (hAL ▸ HN.out.ascSub)
  have UU := Lib.hid HN.out.uni
  have hal12 : AL.length ≤ 12 := (UU.out.ax SA.out).rank
  have HRead := Lib.hid (fun (j : Nat) (L : List Int) (xs : List (El k p n)) (h : ts[j]? = some (L, xs)) => net_read hr HWW.out HN.out (List.mem_of_getElem? h) o)
  have HSP : Hid (∀ z ∈ AL.map (asg (axs dm AL) o σ0), 0 ≤ z) := Lib.hid fun z hz => (asg_pos UU.out SA.out o z hz).1
  have HST : Hid (∀ (L : List Int), Sub U L → ∀ z ∈ AL.map (stride L (L.map dm)), 0 ≤ z) := Lib.hid fun L hL => stride_pos UU.out hL
  rw [hAL] at HRead
  obtain ⟨σ, hσ⟩ : ∃ σ, asg (axs dm AL) o σ0 = σ := ⟨_, rfl⟩
  rw [hσ] at hVv HRead HSP ⊢
  obtain ⟨aL, cL, rfl, hcL1, hcL2⟩ := hLv.val
  obtain ⟨aX, cX, rfl, hcX1, hcX2⟩ := hVv.val
  rw [List.length_map] at hVv hcX1
  rw [List.length_map]
  obtain ⟨G, hG⟩ : ∃ G : Nat → List Int, (fun j => (netF hr dm (ts.take j) σ).1) = G := ⟨_, rfl⟩
  have hGo : ∀ j, (netF hr dm (ts.take j) σ).1 = G j := fun j => congrFun hG j
  have HGK : Hid (∀ j, rawOk k p n (G j) = true) := Lib.hid fun j => by rw [← hGo]; exact (netF hr dm (ts.take j) σ).2
  have HGL : Hid (∀ j, (G j).length = W) := Lib.hid fun j => by have := (rawOk_iff.1 (HGK.out j)).1; have := HWW.out; omega
  have HG0 : Hid (G 0 = oneL k p n) := Lib.hid (by rw [← hGo]; rfl)
  have HGM : Hid ((netF hr dm ts σ).1 = G m) := Lib.hid (by rw [← hGo, List.take_of_length_le (by rw [HM.out]; exact Nat.le_refl _)])
  have HGS := Lib.hid (fun (j : Nat) (L : List Int) (xs : List (El k p n)) (h : ts[j]? = some (L, xs)) => netF_take hr (dm := dm) h σ)
  simp only [hGo] at HGS
  obtain ⟨VL, hVL⟩ : ∃ VL : List Int → List (El k p n) → List Int, (fun L xs => (valT hr dm L xs σ).1) = VL := ⟨_, rfl⟩
  have hVLo : ∀ L xs, (valT hr dm L xs σ).1 = VL L xs := fun L xs => congrFun (congrFun hVL L) xs
  have HVK : Hid (∀ L xs, rawOk k p n (VL L xs) = true) := Lib.hid fun L xs => by rw [← hVLo]; exact (valT hr dm L xs σ).2
  simp only [hVLo] at HRead HGS
  rw [HGM.out]
  clear hG hVL hGo hVLo HGM hσ hAL hr
  go_enter Try.func103, Try.ntmps103
  go_upto_region 1 with fail
  have hH : Held w w [] := Held.new (Ext.refl w) 0
  have hB : Held w (w.alloc (.cells #[.int .i64 k, .int .i64 p, .int .i64 n, .slice aV m cV, .slice aO op.length cO] 29)) [aB (w.heap.size) 29 [.int .i64 k, .int .i64 p, .int .i64 n, .slice aV m cV, .slice aO op.length cO]] := by
    have h := (hH.mores 1).addB 0 #[.int .i64 k, .int .i64 p, .int .i64 n, .slice aV m cV, .slice aO op.length cO] 29
    exact h
  have hsz : (w.alloc (.cells #[.int .i64 k, .int .i64 p, .int .i64 n, .slice aV m cV, .slice aO op.length cO] 29)).heap.size = w.heap.size + 1 := by simp
  generalize w.alloc (.cells #[.int .i64 k, .int .i64 p, .int .i64 n, .slice aV m cV, .slice aO op.length cO] 29) = wn1 at hB hsz ⊢
  replace hH := hB; have HSZwn1 := Lib.hid hsz; clear hB hsz
  have q0_0 := (hH.blk (k := 0) rfl).cell (j := 0) rfl
  have q0_1 := (hH.blk (k := 0) rfl).cell (j := 1) rfl
  have q0_2 := (hH.blk (k := 0) rfl).cell (j := 2) rfl
  have q0_3 := (hH.blk (k := 0) rfl).cell (j := 3) rfl
  have q0_4 := (hH.blk (k := 0) rfl).cell (j := 4) rfl
  have l0_ := (hH.blk (k := 0) rfl).lt
  go_wp2_with fail
  clear q0_0 q0_1 q0_2 q0_3 q0_4 l0_
  refine (rawOne_any k p n hw hf _).mono ?_; rintro ewn2 wn2 ⟨vw, rfl, ow, hwn2⟩
  rw [← HG0.out] at ow
  replace hH : Held w wn2 [aB (w.heap.size) 29 [.int .i64 k, .int .i64 p, .int .i64 n, .slice aV m cV, .slice aO op.length cO], aI vw (G 0)] := (hH.mores 1).addI 1 hwn2 ow (Nat.le_refl _)
  clear hwn2
  have q0_0 := (hH.blk (k := 0) rfl).cell (j := 0) rfl
  have q0_1 := (hH.blk (k := 0) rfl).cell (j := 1) rfl
  have q0_2 := (hH.blk (k := 0) rfl).cell (j := 2) rfl
  have q0_3 := (hH.blk (k := 0) rfl).cell (j := 3) rfl
  have q0_4 := (hH.blk (k := 0) rfl).cell (j := 4) rfl
  have l0_ := (hH.blk (k := 0) rfl).lt
  go_wp2_with fail
  clear q0_0 q0_1 q0_2 q0_3 q0_4 l0_
  go_loopw [7, 16] (fun vw i wr => ∃ (j : Nat), j ≤ m ∧ i = .int .i64 (j : Int) ∧ Held w wr [aB (w.heap.size) 29 [.int .i64 k, .int .i64 p, .int .i64 n, .slice aV m cV, .slice aO op.length cO], aI vw (G j)]) (fun vw i wr => m - (RowKit.intOf i).toNat)
  case atStart => exact ⟨0, Nat.zero_le _, rfl, hH⟩
  case round =>
    clear hH
    rename_i vw
    obtain ⟨j, hj, rfl, hH⟩ := hrel
    obtain ⟨aw, cw, rfl⟩ := (hH.own (k := 1) rfl).shape1 W (HGL.out j)
    obtain ⟨wq, rfl⟩ : ∃ q, q = wr := ⟨wr, rfl⟩
    by_cases hlt : j < m
    · skip
      obtain ⟨bT, oT, u1, u2, u3, t3, hV, hu0, hu1, hu2, ht3, hTu⟩ := hT.get (i := j) (by rw [hTl.out]; exact hlt)
      subst hV
      obtain ⟨t, htj, rfl⟩ : ∃ t, ts[j]? = some t ∧ tenOf dm t = t3 := by rw [List.getElem?_map] at ht3; exact Option.map_eq_some_iff.1 ht3
      have HTJ := Lib.hid htj; have HTI := Lib.hid (HN.out.ten t (List.mem_of_getElem? htj)); clear ht3 htj
      obtain ⟨tl, xs⟩ := t
      obtain ⟨e1, m1, f1, e2, m2, f2, e3, m3, f3, hvv⟩ := hTu.shape
      simp at hvv
      obtain ⟨rfl, rfl, rfl⟩ := hvv
      rw [Nat.mul_comm 3 j] at hu0 hu1 hu2
      obtain ⟨_, _, _, hvv, hTL, hTD, hTX⟩ := hTu.val
      simp at hvv
      obtain ⟨rfl, rfl, rfl⟩ := hvv
      simp only [tenOf] at hTu hTL hTD hTX HTI
      obtain ⟨_, _, hvv, _, _⟩ := hTL.val
      simp at hvv
      obtain ⟨rfl, rfl, rfl⟩ := hvv
      obtain ⟨_, _, hvv, _, _⟩ := hTD.val
      simp at hvv
      obtain ⟨rfl, rfl, rfl⟩ := hvv
      obtain ⟨bX, oX, cX3, hXX, hcX, _, hbX⟩ := hTX.open (by have h := HTI.out; have := (h.ok HR.out).nat HR.out; obtain ⟨P0, W', hP, hW', hP1, hP2, hW1', hW6', hXl⟩ := this; rw [hXl]; exact Nat.mul_le_mul hP1 hW1')
      cases hXX
      have hX9 := HTI.out.flatL HR.out
      obtain ⟨qj, hd1, hd2, hd3, hd4⟩ := HRead.out j tl xs HTJ.out
      obtain ⟨y, hy⟩ : ∃ y, VL tl xs = y := ⟨_, rfl⟩
      have HYK : Hid (rawOk k p n y = true) := Lib.hid (by rw [← hy]; exact HVK.out tl xs)
      have HGJ := Lib.hid (HGS.out j tl xs HTJ.out)
      rw [hy] at hd4 HGJ
      have HD1 := Lib.hid hd1; have HD3 := Lib.hid hd3; have HD4 := Lib.hid hd4
      have QJW : Hid ((qj : Int) * (W : Int) = ((qj * W : Nat) : Int)) := Lib.hid (by simp)
      have hqj0 : (0 : Int) ≤ (qj : Int) := by omega
      have HSJ := Lib.hid (HST.out tl HTI.out.sub)
      clear hd1 hd3 hd4 hy
      have q0_0 := (hH.blk (k := 0) rfl).cell (j := 0) rfl
      have q0_1 := (hH.blk (k := 0) rfl).cell (j := 1) rfl
      have q0_2 := (hH.blk (k := 0) rfl).cell (j := 2) rfl
      have q0_3 := (hH.blk (k := 0) rfl).cell (j := 3) rfl
      have q0_4 := (hH.blk (k := 0) rfl).cell (j := 4) rfl
      have l0_ := (hH.blk (k := 0) rfl).lt
      have c_hu0 := hH.ext.cell hu0
      have c_hu1 := hH.ext.cell hu1
      have c_hu2 := hH.ext.cell hu2
      go_upto_region 5 with fail
      clear q0_0 q0_1 q0_2 q0_3 q0_4 l0_ c_hu0 c_hu1 c_hu2
      have hB : Held w (wq.alloc (.cells #[.slice e1 tl.length f1, .slice e2 tl.length f2, .slice (some ⟨bX, oX, none⟩) (flat xs).length f3] 32)) [aB (w.heap.size) 29 [.int .i64 k, .int .i64 p, .int .i64 n, .slice (some ⟨bT, oT, none⟩) m cV, .slice aO op.length cO], aI (.slice aw W cw) (G j), aB (wq.heap.size) 32 [.slice e1 tl.length f1, .slice e2 tl.length f2, .slice (some ⟨bX, oX, none⟩) (flat xs).length f3]] := by
        have h := (hH.mores 1).addB 2 #[.slice e1 tl.length f1, .slice e2 tl.length f2, .slice (some ⟨bX, oX, none⟩) (flat xs).length f3] 32
        exact h
      have hsz : (wq.alloc (.cells #[.slice e1 tl.length f1, .slice e2 tl.length f2, .slice (some ⟨bX, oX, none⟩) (flat xs).length f3] 32)).heap.size = wq.heap.size + 1 := by simp
      generalize wq.alloc (.cells #[.slice e1 tl.length f1, .slice e2 tl.length f2, .slice (some ⟨bX, oX, none⟩) (flat xs).length f3] 32) = wn3 at hB hsz ⊢
      replace hH := hB; have HSZwn3 := Lib.hid hsz; clear hB hsz
      replace hH := hH.mores 2
      replace hH : Held w wn3 [aB (w.heap.size) 29 [.int .i64 k, .int .i64 p, .int .i64 n, .slice (some ⟨bT, oT, none⟩) m cV, .slice aO op.length cO], aI (.slice aw W cw) (G j), aB (wq.heap.size) 32 [.slice e1 tl.length f1, .slice e2 tl.length f2, .slice (some ⟨bX, oX, none⟩) (flat xs).length f3], emp, emp] := hH
      refine wp_region_steps ?Fc (fun b t wx => Held w wx [aB (w.heap.size) 29 [.int .i64 k, .int .i64 p, .int .i64 n, .slice (some ⟨bT, oT, none⟩) m cV, .slice aO op.length cO], aI (.slice aw W cw) (G j), aB (wq.heap.size) 32 [.slice e1 tl.length f1, .slice e2 tl.length f2, .slice (some ⟨bX, oX, none⟩) (flat xs).length f3], (bif b 8 then aI (t 8) (AL.map (stride tl (tl.map dm))) else emp), (bif b 12 then aI (t 12) (G (j + 1)) else emp)] ∧ (b 0 = true → t 0 = .pointer (some ⟨w.heap.size, 0, none⟩)) ∧ (b 1 = true → t 1 = .agg #[.int .i64 k, .int .i64 p, .int .i64 n]) ∧ (b 2 = true → t 2 = .slice aw W cw) ∧ (b 3 = true → t 3 = .pointer (some ⟨w.heap.size, 0, none⟩)) ∧ (b 4 = true → t 4 = .agg #[.int .i64 k, .int .i64 p, .int .i64 n]) ∧ (b 5 = true → t 5 = .agg #[.slice e1 tl.length f1, .slice e2 tl.length f2, .slice (some ⟨bX, oX, none⟩) (flat xs).length f3]) ∧ (b 6 = true → t 6 = .agg #[.slice e1 tl.length f1, .slice e2 tl.length f2, .slice (some ⟨bX, oX, none⟩) (flat xs).length f3]) ∧ (b 7 = true → t 7 = .slice aL AL.length cL) ∧ (b 8 = true → ∃ x c, t 8 = .slice x AL.length c) ∧ (b 9 = true → t 9 = .slice aX AL.length cX) ∧ (b 10 = true → t 10 = .int .i64 (qj : Int)) ∧ (b 11 = true → t 11 = .slice (some ⟨bX, oX + qj * W, none⟩) W (f3 - qj * W)) ∧ (b 12 = true → ∃ x c, t 12 = .slice x W c) ∧ (b 13 = true → t 13 = t 12) ∧ Hid (b 13 = false → t 13 = .slice aw W cw)) ?hFc (by kernel_rfl) (by kernel_rfl) ?hJc ?hSc ?hEc
      (case hFc => intro t; simp only [putAll, Act.put, List.setIfInBounds_toArray, List.set_cons_zero, List.set_cons_succ, Nat.reduceAdd, Nat.zero_add]; exact rfl)
      case hJc => exact ⟨hH.grow ((Ext.refl _).drew), fun h => absurd h Bool.false_ne_true, fun h => absurd h Bool.false_ne_true, fun h => absurd h Bool.false_ne_true, fun h => absurd h Bool.false_ne_true, fun h => absurd h Bool.false_ne_true, fun h => absurd h Bool.false_ne_true, fun h => absurd h Bool.false_ne_true, fun h => absurd h Bool.false_ne_true, fun h => absurd h Bool.false_ne_true, fun h => absurd h Bool.false_ne_true, fun h => absurd h Bool.false_ne_true, fun h => absurd h Bool.false_ne_true, fun h => absurd h Bool.false_ne_true, fun h => absurd h Bool.false_ne_true, Lib.hid fun _ => rfl⟩
      case hSc =>
        as_aux_lemma =>
          refine AllSteps.cons (j := 1) rfl (fun b t wx hJ hb hd hcl Kc hK => ?_) ?_
          · obtain ⟨hH, v0, v1, v2, v3, v4, v5, v6, v7, v8, v9, v10, v11, v12, v13, old13⟩ := hJ
            go_simp
            refine hK.out _ ?_ _ ?_ ?_; rotate_left 2
            · rfl
            exact ⟨hH, fun _ => rfl, v1, v2, v3, v4, v5, v6, v7, v8, v9, v10, v11, v12, v13, old13⟩
          refine AllSteps.cons (j := 2) rfl (fun b t wx hJ hb hd hcl Kc hK => ?_) ?_
          · obtain ⟨hH, v0, v1, v2, v3, v4, v5, v6, v7, v8, v9, v10, v11, v12, v13, old13⟩ := hJ
            have d0 : b 0 = true := hd.out 0 (by kernel_rfl)
            have r0 := v0 d0
            have q0_0 := (hH.blk (k := 0) rfl).cell (j := 0) rfl
            have q0_1 := (hH.blk (k := 0) rfl).cell (j := 1) rfl
            have q0_2 := (hH.blk (k := 0) rfl).cell (j := 2) rfl
            go_simp
            refine hK.out _ ?_ _ ?_ ?_; rotate_left 2
            · (try simp only [r0]); rfl
            exact ⟨hH, v0, fun _ => rfl, v2, v3, v4, v5, v6, v7, v8, v9, v10, v11, v12, v13, old13⟩
          refine AllSteps.cons (j := 3) rfl (fun b t wx hJ hb hd hcl Kc hK => ?_) ?_
          · obtain ⟨hH, v0, v1, v2, v3, v4, v5, v6, v7, v8, v9, v10, v11, v12, v13, old13⟩ := hJ
            have n13 : b 13 = false := Bool.eq_false_iff.2 fun h => absurd (hcl.out 13 2 (by kernel_rfl) (h)) (by rw [hb]; exact Bool.false_ne_true)
            have eo13 := old13.out n13
            go_simp
            refine hK.out _ ?_ _ ?_ ?_; rotate_left 2
            · (try simp only [eo13]); rfl
            exact ⟨hH, v0, v1, fun _ => rfl, v3, v4, v5, v6, v7, v8, v9, v10, v11, v12, v13, old13⟩
          refine AllSteps.cons (j := 4) rfl (fun b t wx hJ hb hd hcl Kc hK => ?_) ?_
          · obtain ⟨hH, v0, v1, v2, v3, v4, v5, v6, v7, v8, v9, v10, v11, v12, v13, old13⟩ := hJ
            go_simp
            refine hK.out _ ?_ _ ?_ ?_; rotate_left 2
            · rfl
            exact ⟨hH, v0, v1, v2, fun _ => rfl, v4, v5, v6, v7, v8, v9, v10, v11, v12, v13, old13⟩
          refine AllSteps.cons (j := 5) rfl (fun b t wx hJ hb hd hcl Kc hK => ?_) ?_
          · obtain ⟨hH, v0, v1, v2, v3, v4, v5, v6, v7, v8, v9, v10, v11, v12, v13, old13⟩ := hJ
            have d3 : b 3 = true := hd.out 3 (by kernel_rfl)
            have r3 := v3 d3
            have q0_0 := (hH.blk (k := 0) rfl).cell (j := 0) rfl
            have q0_1 := (hH.blk (k := 0) rfl).cell (j := 1) rfl
            have q0_2 := (hH.blk (k := 0) rfl).cell (j := 2) rfl
            go_simp
            refine hK.out _ ?_ _ ?_ ?_; rotate_left 2
            · (try simp only [r3]); rfl
            exact ⟨hH, v0, v1, v2, v3, fun _ => rfl, v5, v6, v7, v8, v9, v10, v11, v12, v13, old13⟩
          refine AllSteps.cons (j := 6) rfl (fun b t wx hJ hb hd hcl Kc hK => ?_) ?_
          · obtain ⟨hH, v0, v1, v2, v3, v4, v5, v6, v7, v8, v9, v10, v11, v12, v13, old13⟩ := hJ
            have q2_0 := (hH.blk (k := 2) rfl).cell (j := 0) rfl
            have q2_1 := (hH.blk (k := 2) rfl).cell (j := 1) rfl
            have q2_2 := (hH.blk (k := 2) rfl).cell (j := 2) rfl
            go_simp
            refine hK.out _ ?_ _ ?_ ?_; rotate_left 2
            · rfl
            exact ⟨hH, v0, v1, v2, v3, v4, fun _ => rfl, v6, v7, v8, v9, v10, v11, v12, v13, old13⟩
          refine AllSteps.cons (j := 7) rfl (fun b t wx hJ hb hd hcl Kc hK => ?_) ?_
          · obtain ⟨hH, v0, v1, v2, v3, v4, v5, v6, v7, v8, v9, v10, v11, v12, v13, old13⟩ := hJ
            have q2_0 := (hH.blk (k := 2) rfl).cell (j := 0) rfl
            have q2_1 := (hH.blk (k := 2) rfl).cell (j := 1) rfl
            have q2_2 := (hH.blk (k := 2) rfl).cell (j := 2) rfl
            go_simp
            refine hK.out _ ?_ _ ?_ ?_; rotate_left 2
            · rfl
            exact ⟨hH, v0, v1, v2, v3, v4, v5, fun _ => rfl, v7, v8, v9, v10, v11, v12, v13, old13⟩
          refine AllSteps.cons (j := 8) rfl (fun b t wx hJ hb hd hcl Kc hK => ?_) ?_
          · obtain ⟨hH, v0, v1, v2, v3, v4, v5, v6, v7, v8, v9, v10, v11, v12, v13, old13⟩ := hJ
            go_simp
            refine hK.out _ ?_ _ ?_ ?_; rotate_left 2
            · rfl
            exact ⟨hH, v0, v1, v2, v3, v4, v5, v6, fun _ => rfl, v8, v9, v10, v11, v12, v13, old13⟩
          refine AllSteps.cons (j := 9) rfl (fun b t wx hJ hb hd hcl Kc hK => ?_) ?_
          · obtain ⟨hH, v0, v1, v2, v3, v4, v5, v6, v7, v8, v9, v10, v11, v12, v13, old13⟩ := hJ
            have d6 : b 6 = true := hd.out 6 (by kernel_rfl)
            have d7 : b 7 = true := hd.out 7 (by kernel_rfl)
            have r6 := v6 d6
            have r7 := v7 d7
            have hN := hH; (try simp only [hb, d6, d7, cond_true, cond_false] at hN)
            go_simp
            go_at_call 107
            refine (stridesOf_any _ _ tl (tl.map dm) (flat xs) AL _ (hTu.ext hH.ext) (hLv.ext hH.ext) (by rw [List.length_map]) HTI.out.ax.dims (by have := HTI.out.ax.size; omega) (by omega)).mono ?_; rintro e8 w8 ⟨v8, rfl, o8, h8⟩
            obtain ⟨x8, c8, rfl⟩ := o8.shape1 AL.length (by rw [List.length_map])
            (try go_simp)
            refine hK.out _ ?_ _ ?_ ?_; rotate_left 2
            · (try simp only [r6, r7]); rfl
            exact ⟨by have hX := hN.addI 3 h8 o8 (Nat.le_refl _); (try simp only [List.set_cons_zero, List.set_cons_succ] at hX); simpa only [updB, updV, blkOf_mk, tup0_mk, partsOf3, Nat.reduceBEq, cond_true, cond_false, hb, d6, d7, r6, r7] using hX, v0, v1, v2, v3, v4, v5, v6, v7, fun _ => ⟨_, _, rfl⟩, v9, v10, v11, v12, v13, old13⟩
          refine AllSteps.cons (j := 10) rfl (fun b t wx hJ hb hd hcl Kc hK => ?_) ?_
          · obtain ⟨hH, v0, v1, v2, v3, v4, v5, v6, v7, v8, v9, v10, v11, v12, v13, old13⟩ := hJ
            go_simp
            refine hK.out _ ?_ _ ?_ ?_; rotate_left 2
            · rfl
            exact ⟨hH, v0, v1, v2, v3, v4, v5, v6, v7, v8, fun _ => rfl, v10, v11, v12, v13, old13⟩
          refine AllSteps.cons (j := 11) rfl (fun b t wx hJ hb hd hcl Kc hK => ?_) ?_
          · obtain ⟨hH, v0, v1, v2, v3, v4, v5, v6, v7, v8, v9, v10, v11, v12, v13, old13⟩ := hJ
            have d8 : b 8 = true := hd.out 8 (by kernel_rfl)
            have d9 : b 9 = true := hd.out 9 (by kernel_rfl)
            have r8 := v8 d8
            have r9 := v9 d9
            obtain ⟨x_8, c_8, r8⟩ := r8
            have hN := hH; (try simp only [hb, d8, d9, cond_true, cond_false] at hN)
            rw [r8] at hN -- d8
            have hR8 := hN.ints (k := 3) rfl
            go_simp
            go_at_call 111
            refine (dotOf_ext _ _ (AL.map (stride tl (tl.map dm))) (AL.map σ) _ hR8 (hVv.ext hH.ext) (by rw [List.length_map, List.length_map]) HSJ.out HSP.out (by rw [HD1.out]; omega)).mono ?_; rintro e10 w10 ⟨rfl, h10⟩
            rw [HD1.out]
            (try go_simp)
            refine hK.out _ ?_ _ ?_ ?_; rotate_left 2
            · (try simp only [r8, r9]); rfl
            exact ⟨by have hX := hN.grow h10; (try simp only [List.set_cons_zero, List.set_cons_succ] at hX); simpa only [updB, updV, blkOf_mk, tup0_mk, partsOf3, Nat.reduceBEq, cond_true, cond_false, hb, d8, d9, r8, r9] using hX, v0, v1, v2, v3, v4, v5, v6, v7, v8, v9, fun _ => rfl, v11, v12, v13, old13⟩
          refine AllSteps.cons (j := 12) rfl (fun b t wx hJ hb hd hcl Kc hK => ?_) ?_
          · obtain ⟨hH, v0, v1, v2, v3, v4, v5, v6, v7, v8, v9, v10, v11, v12, v13, old13⟩ := hJ
            have d4 : b 4 = true := hd.out 4 (by kernel_rfl)
            have d5 : b 5 = true := hd.out 5 (by kernel_rfl)
            have d10 : b 10 = true := hd.out 10 (by kernel_rfl)
            have r4 := v4 d4
            have r5 := v5 d5
            have r10 := v10 d10
            go_simp
            go_at_call 110
            refine (rawElem_gen k p n qj (qj * W) W HWW.out _ _ _ _ _ _ bX oX (flat xs).length f3 _ QJW.out hqj0 hw HD3.out hcX hX9).mono ?_; rintro e11 w11 ⟨rfl, h11⟩
            (try go_simp)
            refine hK.out _ ?_ _ ?_ ?_; rotate_left 2
            · (try simp only [r4, r5, r10]); rfl
            exact ⟨by have hX := hH.grow h11; (try simp only [List.set_cons_zero, List.set_cons_succ] at hX); simpa only [updB, updV, blkOf_mk, tup0_mk, partsOf3, Nat.reduceBEq, cond_true, cond_false, hb, d4, d5, d10, r4, r5, r10] using hX, v0, v1, v2, v3, v4, v5, v6, v7, v8, v9, v10, fun _ => rfl, v12, v13, old13⟩
          refine AllSteps.cons (j := 13) rfl (fun b t wx hJ hb hd hcl Kc hK => ?_) ?_
          · obtain ⟨hH, v0, v1, v2, v3, v4, v5, v6, v7, v8, v9, v10, v11, v12, v13, old13⟩ := hJ
            have d1 : b 1 = true := hd.out 1 (by kernel_rfl)
            have d2 : b 2 = true := hd.out 2 (by kernel_rfl)
            have d11 : b 11 = true := hd.out 11 (by kernel_rfl)
            have n13 : b 13 = false := Bool.eq_false_iff.2 fun h => absurd (hcl.out 13 12 (by kernel_rfl) (h)) (by rw [hb]; exact Bool.false_ne_true)
            have r1 := v1 d1
            have r2 := v2 d2
            have r11 := v11 d11
            have hN := hH; (try simp only [hb, d1, d2, d11, n13, cond_true, cond_false] at hN)
            have hpart := IntS.part (hTX.ext hH.ext) (W := W) (o := qj * W) hW1 HD3.out
            rw [HD4.out] at hpart
            go_simp
            go_at_call 109
            refine (rawMul_any k p n _ _ (G j) y _ HR.out (hH.ints (k := 1) rfl) hpart (HGK.out j) HYK.out).mono ?_; rintro e12 w12 ⟨v12, rfl, o12, h12⟩
            rw [← HGJ.out] at o12
            obtain ⟨x12, c12, rfl⟩ := o12.shape1 W (HGL.out (j + 1))
            (try go_simp)
            refine hK.out _ ?_ _ ?_ ?_; rotate_left 2
            · (try simp only [r1, r2, r11]); rfl
            exact ⟨by have hX := hN.addI 4 h12 o12 (Nat.le_refl _); (try simp only [List.set_cons_zero, List.set_cons_succ] at hX); simpa only [updB, updV, blkOf_mk, tup0_mk, partsOf3, Nat.reduceBEq, cond_true, cond_false, hb, d1, d2, d11, n13, r1, r2, r11] using hX, v0, v1, v2, v3, v4, v5, v6, v7, v8, v9, v10, v11, fun _ => ⟨_, _, rfl⟩, fun h => absurd (show b 13 = true from h) (by rw [n13]; exact Bool.false_ne_true), old13⟩
          refine AllSteps.cons (j := 14) rfl (fun b t wx hJ hb hd hcl Kc hK => ?_) ?_
          · obtain ⟨hH, v0, v1, v2, v3, v4, v5, v6, v7, v8, v9, v10, v11, v12, v13, old13⟩ := hJ
            have d0 : b 0 = true := hd.out 0 (by kernel_rfl)
            have d1 : b 1 = true := hd.out 1 (by kernel_rfl)
            have d2 : b 2 = true := hd.out 2 (by kernel_rfl)
            have d3 : b 3 = true := hd.out 3 (by kernel_rfl)
            have d4 : b 4 = true := hd.out 4 (by kernel_rfl)
            have d5 : b 5 = true := hd.out 5 (by kernel_rfl)
            have d6 : b 6 = true := hd.out 6 (by kernel_rfl)
            have d7 : b 7 = true := hd.out 7 (by kernel_rfl)
            have d8 : b 8 = true := hd.out 8 (by kernel_rfl)
            have d9 : b 9 = true := hd.out 9 (by kernel_rfl)
            have d10 : b 10 = true := hd.out 10 (by kernel_rfl)
            have d11 : b 11 = true := hd.out 11 (by kernel_rfl)
            have d12 : b 12 = true := hd.out 12 (by kernel_rfl)
            have r0 := v0 d0
            have r1 := v1 d1
            have r2 := v2 d2
            have r3 := v3 d3
            have r4 := v4 d4
            have r5 := v5 d5
            have r6 := v6 d6
            have r7 := v7 d7
            have r8 := v8 d8
            have r9 := v9 d9
            have r10 := v10 d10
            have r11 := v11 d11
            have r12 := v12 d12
            obtain ⟨x_8, c_8, r8⟩ := r8
            obtain ⟨x_12, c_12, r12⟩ := r12
            go_simp
            refine hK.out _ ?_ _ ?_ ?_; rotate_left 2
            · (try simp only [r0, r1, r2, r3, r4, r5, r6, r7, r8, r9, r10, r11, r12]); rfl
            exact ⟨hH, v0, v1, v2, v3, v4, v5, v6, v7, v8, v9, v10, v11, v12, fun _ => (by first | rfl | exact r12.symm), Lib.hid fun h => absurd (show true = false from h) (by decide)⟩
          exact AllSteps.nil
      case hEc =>
        intro b t wc hJ hall
        obtain ⟨hHc, v0, v1, v2, v3, v4, v5, v6, v7, v8, v9, v10, v11, v12, v13, old13⟩ := hJ
        clear old13
        have a0 : b 0 = true := hall 0 (by decide)
        have a1 : b 1 = true := hall 1 (by decide)
        have a2 : b 2 = true := hall 2 (by decide)
        have a3 : b 3 = true := hall 3 (by decide)
        have a4 : b 4 = true := hall 4 (by decide)
        have a5 : b 5 = true := hall 5 (by decide)
        have a6 : b 6 = true := hall 6 (by decide)
        have a7 : b 7 = true := hall 7 (by decide)
        have a8 : b 8 = true := hall 8 (by decide)
        have a9 : b 9 = true := hall 9 (by decide)
        have a10 : b 10 = true := hall 10 (by decide)
        have a11 : b 11 = true := hall 11 (by decide)
        have a12 : b 12 = true := hall 12 (by decide)
        have a13 : b 13 = true := hall 13 (by decide)
        (try simp only [a0, a1, a2, a3, a4, a5, a6, a7, a8, a9, a10, a11, a12, a13, cond_true] at hHc)
        replace v0 := v0 a0
        replace v1 := v1 a1
        replace v2 := v2 a2
        replace v3 := v3 a3
        replace v4 := v4 a4
        replace v5 := v5 a5
        replace v6 := v6 a6
        replace v7 := v7 a7
        replace v8 := v8 a8
        replace v9 := v9 a9
        replace v10 := v10 a10
        replace v11 := v11 a11
        replace v12 := v12 a12
        replace v13 := v13 a13
        clear hall a0 a1 a2 a3 a4 a5 a6 a7 a8 a9 a10 a11 a12 a13
        generalize t 13 = x13 at hHc v13 ⊢
        generalize t 12 = x12 at hHc v12 v13 ⊢
        generalize t 11 = x11 at hHc v11 ⊢
        generalize t 10 = x10 at hHc v10 ⊢
        generalize t 9 = x9 at hHc v9 ⊢
        generalize t 8 = x8 at hHc v8 ⊢
        generalize t 7 = x7 at hHc v7 ⊢
        generalize t 6 = x6 at hHc v6 ⊢
        generalize t 5 = x5 at hHc v5 ⊢
        generalize t 4 = x4 at hHc v4 ⊢
        generalize t 3 = x3 at hHc v3 ⊢
        generalize t 2 = x2 at hHc v2 ⊢
        generalize t 1 = x1 at hHc v1 ⊢
        generalize t 0 = x0 at hHc v0 ⊢
        subst v0
        subst v1
        subst v2
        subst v3
        subst v4
        subst v5
        subst v6
        subst v7
        obtain ⟨xc8, cc8, rfl⟩ := v8
        subst v9
        subst v10
        subst v11
        obtain ⟨xc12, cc12, rfl⟩ := v12
        subst v13
        clear b
        replace hH := hHc; clear hHc
        replace hH : Held w wc [aB (w.heap.size) 29 [.int .i64 k, .int .i64 p, .int .i64 n, .slice (some ⟨bT, oT, none⟩) m cV, .slice aO op.length cO], aI (.slice aw W cw) (G j), aB (wq.heap.size) 32 [.slice e1 tl.length f1, .slice e2 tl.length f2, .slice (some ⟨bX, oX, none⟩) (flat xs).length f3], aI (.slice xc8 AL.length cc8) (AL.map (stride tl (tl.map dm))), aI (.slice xc12 W cc12) (G (j + 1))] := hH
        replace hH : Held w wc [aB (w.heap.size) 29 [.int .i64 k, .int .i64 p, .int .i64 n, .slice (some ⟨bT, oT, none⟩) m cV, .slice aO op.length cO], aI (.slice xc12 W cc12) (G (j + 1))] := hH.sub (.cons_cons _ (.cons _ (.cons _ (.cons _ (.cons_cons _ .slnil)))))
        go_wp2_with fail
        go_roundw
        case rel => exact ⟨j + 1, by omega, by go_num, hH⟩
        case measure => simp [RowKit.intOf]; omega
    · skip
      have hje : j = m := by omega
      subst hje
      have HO := Lib.hid (hH.own (k := 1) rfl); have HE := Lib.hid hH.ext; clear hH
      go_wp2
      go_ret
      exact ⟨_, rfl, HO.out, HE.out⟩
set_option maxRecDepth 100000 in
set_option maxHeartbeats 4000000 in
theorem weightOf_any {k p n : Int} (hr : ringOk k p n = true) {dm : Int → Int} {U : List Int} {ts : List (NT k p n)} {op : List Int} (hN : IsN k p n dm U ts op) (tv ov : Value) (w : World) (hT : TensS w tv (ts.map (tenOf dm))) (hO : IntS w ov op) {AL : List Int} (hAL : ascL (occ ts) = AL) (o : Nat) (hI : idxOk (AL.map dm) (AL.map (asg (axs dm AL) o σ0)) = true) (vv : Value) (hVv : IntS w vv (AL.map (asg (axs dm AL) o σ0))) :
    Calls Try.prog 30 #[.agg #[.int .i64 k, .int .i64 p, .int .i64 n, tv, ov], vv] w fun e w' => ∃ u, e = .returned u ∧ OwnI w' w.heap.size u (netF hr dm ts (asg (axs dm AL) o σ0)).1 ∧ Ext w w' := by
  have hT0 := hT
  have hO0 := hO
  obtain ⟨m, hm⟩ : ∃ m, ts.length = m := ⟨_, rfl⟩
  obtain ⟨aV, cV, rfl, hcT1, hcT2⟩ := hT.val
  obtain ⟨aO, cO, rfl, hcO1, hcO2⟩ := hO.val
  rw [List.length_map, hm] at hT hT0 hcT1
  rw [List.length_map, hm]
  have hm12 : m ≤ 12 := by rw [← hm]; exact hN.len
  have hop12 : op.length ≤ 12 := hN.rank
  have HM := Lib.hid hm; have HR := Lib.hid hr; have HN := Lib.hid hN; have HD3 := Lib.hid hN.dims3; clear hm  hN
  have hTl : Hid ((ts.map (tenOf dm)).length = m) := Lib.hid (by rw [List.length_map]; exact HM.out)
  have HAL := Lib.hid hAL; have HI := Lib.hid hI; clear hAL hI
  obtain ⟨RF, hRF⟩ : ∃ q, (netF hr dm ts (asg (axs dm AL) o σ0)).1 = q := ⟨_, rfl⟩
  rw [hRF]
  have HRF := Lib.hid hRF; clear hRF
  obtain ⟨av, cv, rfl, _, _⟩ := hVv.val
  rw [List.length_map] at hVv ⊢
  go_enter Try.func30, Try.ntmps30
  go_upto_region 1 with fail
  have hH : Held w w [] := Held.new (Ext.refl w) 0
  have hB : Held w (w.alloc (.cells #[.int .i64 k, .int .i64 p, .int .i64 n, .slice aV m cV, .slice aO op.length cO] 29)) [aB (w.heap.size) 29 [.int .i64 k, .int .i64 p, .int .i64 n, .slice aV m cV, .slice aO op.length cO]] := by
    have h := (hH.mores 1).addB 0 #[.int .i64 k, .int .i64 p, .int .i64 n, .slice aV m cV, .slice aO op.length cO] 29
    exact h
  have hsz : (w.alloc (.cells #[.int .i64 k, .int .i64 p, .int .i64 n, .slice aV m cV, .slice aO op.length cO] 29)).heap.size = w.heap.size + 1 := by simp
  generalize w.alloc (.cells #[.int .i64 k, .int .i64 p, .int .i64 n, .slice aV m cV, .slice aO op.length cO] 29) = wn1 at hB hsz ⊢
  replace hH := hB; have HSZwn1 := Lib.hid hsz; clear hB hsz
  have q0_0 := (hH.blk (k := 0) rfl).cell (j := 0) rfl
  have q0_1 := (hH.blk (k := 0) rfl).cell (j := 1) rfl
  have q0_2 := (hH.blk (k := 0) rfl).cell (j := 2) rfl
  have q0_3 := (hH.blk (k := 0) rfl).cell (j := 3) rfl
  have q0_4 := (hH.blk (k := 0) rfl).cell (j := 4) rfl
  have l0_ := (hH.blk (k := 0) rfl).lt
  go_wp2_with fail
  clear q0_0 q0_1 q0_2 q0_3 q0_4 l0_
  refine (assignmentOk_any HR.out HN.out _ _ _ (hT0.ext hH.ext) (hO0.ext hH.ext) HAL.out _ HI.out _ (hVv.ext hH.ext)).mono ?_; rintro ewn2 wn2 ⟨rfl, hwn2⟩
  replace hH : Held w wn2 [aB (w.heap.size) 29 [.int .i64 k, .int .i64 p, .int .i64 n, .slice aV m cV, .slice aO op.length cO]] := hH.grow hwn2
  clear hwn2
  have q0_0 := (hH.blk (k := 0) rfl).cell (j := 0) rfl
  have q0_1 := (hH.blk (k := 0) rfl).cell (j := 1) rfl
  have q0_2 := (hH.blk (k := 0) rfl).cell (j := 2) rfl
  have q0_3 := (hH.blk (k := 0) rfl).cell (j := 3) rfl
  have q0_4 := (hH.blk (k := 0) rfl).cell (j := 4) rfl
  have l0_ := (hH.blk (k := 0) rfl).lt
  go_upto_region 3 with fail
  clear q0_0 q0_1 q0_2 q0_3 q0_4 l0_
  replace hH := hH.mores 2
  replace hH : Held w wn2 [aB (w.heap.size) 29 [.int .i64 k, .int .i64 p, .int .i64 n, .slice aV m cV, .slice aO op.length cO], emp, emp] := hH
  refine wp_region_steps ?Fa (fun b t wx => Held w wx [aB (w.heap.size) 29 [.int .i64 k, .int .i64 p, .int .i64 n, .slice aV m cV, .slice aO op.length cO], (bif b 2 then aI (t 2) AL else emp), (bif b 4 then aI (t 4) RF else emp)] ∧ (b 0 = true → t 0 = .agg #[.int .i64 k, .int .i64 p, .int .i64 n, .slice aV m cV, .slice aO op.length cO]) ∧ (b 1 = true → t 1 = .agg #[.int .i64 k, .int .i64 p, .int .i64 n, .slice aV m cV, .slice aO op.length cO]) ∧ (b 2 = true → ∃ x c, t 2 = .slice x AL.length c) ∧ (b 3 = true → t 3 = .slice av AL.length cv) ∧ (b 4 = true → ∃ x n' c, t 4 = .slice x n' c) ∧ (b 5 = true → t 5 = t 4)) ?hFa (by kernel_rfl) (by kernel_rfl) ?hJa ?hSa ?hEa
  (case hFa => intro t; simp only [putAll, Act.put, List.setIfInBounds_toArray, List.set_cons_zero, List.set_cons_succ, Nat.reduceAdd, Nat.zero_add]; exact rfl)
  case hJa => exact ⟨hH.grow ((Ext.refl _).drew), fun h => absurd h Bool.false_ne_true, fun h => absurd h Bool.false_ne_true, fun h => absurd h Bool.false_ne_true, fun h => absurd h Bool.false_ne_true, fun h => absurd h Bool.false_ne_true, fun h => absurd h Bool.false_ne_true⟩
  case hSa =>
    as_aux_lemma =>
      refine AllSteps.cons (j := 1) rfl (fun b t wx hJ hb hd hcl Kc hK => ?_) ?_
      · obtain ⟨hH, v0, v1, v2, v3, v4, v5⟩ := hJ
        have q0_0 := (hH.blk (k := 0) rfl).cell (j := 0) rfl
        have q0_1 := (hH.blk (k := 0) rfl).cell (j := 1) rfl
        have q0_2 := (hH.blk (k := 0) rfl).cell (j := 2) rfl
        have q0_3 := (hH.blk (k := 0) rfl).cell (j := 3) rfl
        have q0_4 := (hH.blk (k := 0) rfl).cell (j := 4) rfl
        go_simp
        refine hK.out _ ?_ _ ?_ ?_; rotate_left 2
        · rfl
        exact ⟨hH, fun _ => rfl, v1, v2, v3, v4, v5⟩
      refine AllSteps.cons (j := 2) rfl (fun b t wx hJ hb hd hcl Kc hK => ?_) ?_
      · obtain ⟨hH, v0, v1, v2, v3, v4, v5⟩ := hJ
        have q0_0 := (hH.blk (k := 0) rfl).cell (j := 0) rfl
        have q0_1 := (hH.blk (k := 0) rfl).cell (j := 1) rfl
        have q0_2 := (hH.blk (k := 0) rfl).cell (j := 2) rfl
        have q0_3 := (hH.blk (k := 0) rfl).cell (j := 3) rfl
        have q0_4 := (hH.blk (k := 0) rfl).cell (j := 4) rfl
        go_simp
        refine hK.out _ ?_ _ ?_ ?_; rotate_left 2
        · rfl
        exact ⟨hH, v0, fun _ => rfl, v2, v3, v4, v5⟩
      refine AllSteps.cons (j := 3) rfl (fun b t wx hJ hb hd hcl Kc hK => ?_) ?_
      · obtain ⟨hH, v0, v1, v2, v3, v4, v5⟩ := hJ
        have d1 : b 1 = true := hd.out 1 (by kernel_rfl)
        have r1 := v1 d1
        have hN := hH; (try simp only [hb, d1, cond_true, cond_false] at hN)
        go_simp
        go_at_call 17
        refine (labelsOf_any HR.out HN.out _ _ _ (hT0.ext hH.ext) (hO0.ext hH.ext)).mono ?_; rintro e2 w2 ⟨v2, rfl, h2⟩
        rw [HAL.out] at h2
        obtain ⟨x2, c2, rfl⟩ := (h2.own (k := 0) rfl).shape1 AL.length rfl
        (try go_simp)
        refine hK.out _ ?_ _ ?_ ?_; rotate_left 2
        · (try simp only [r1]); rfl
        exact ⟨by have hX := hN.addI 1 h2.ext (h2.own (k := 0) rfl) (Nat.le_refl _); (try simp only [List.set_cons_zero, List.set_cons_succ] at hX); simpa only [updB, updV, blkOf_mk, tup0_mk, partsOf3, Nat.reduceBEq, cond_true, cond_false, hb, d1, r1] using hX, v0, v1, fun _ => ⟨_, _, rfl⟩, v3, v4, v5⟩
      refine AllSteps.cons (j := 4) rfl (fun b t wx hJ hb hd hcl Kc hK => ?_) ?_
      · obtain ⟨hH, v0, v1, v2, v3, v4, v5⟩ := hJ
        go_simp
        refine hK.out _ ?_ _ ?_ ?_; rotate_left 2
        · rfl
        exact ⟨hH, v0, v1, v2, fun _ => rfl, v4, v5⟩
      refine AllSteps.cons (j := 5) rfl (fun b t wx hJ hb hd hcl Kc hK => ?_) ?_
      · obtain ⟨hH, v0, v1, v2, v3, v4, v5⟩ := hJ
        have d0 : b 0 = true := hd.out 0 (by kernel_rfl)
        have d2 : b 2 = true := hd.out 2 (by kernel_rfl)
        have d3 : b 3 = true := hd.out 3 (by kernel_rfl)
        have n5 : b 5 = false := Bool.eq_false_iff.2 fun h => absurd (hcl.out 5 4 (by kernel_rfl) (h)) (by rw [hb]; exact Bool.false_ne_true)
        have r0 := v0 d0
        have r2 := v2 d2
        have r3 := v3 d3
        obtain ⟨x_2, c_2, r2⟩ := r2
        have hN := hH; (try simp only [hb, d0, d2, d3, n5, cond_true, cond_false] at hN)
        rw [r2] at hN -- d2
        have hL2 := hN.ints (k := 1) rfl
        go_simp
        go_at_call 103
        refine (rawWeight_any HR.out HN.out _ _ _ (hT0.ext hH.ext) (hO0.ext hH.ext) HAL.out o _ _ hL2 (hVv.ext hH.ext)).mono ?_; rintro e4 w4 ⟨v4, rfl, o4, h4⟩
        rw [show (netF HR.out dm ts (asg (axs dm AL) o σ0)).1 = RF from HRF.out] at o4
        obtain ⟨x4, c4, rfl, _, _⟩ := o4.ints.val
        (try go_simp)
        refine hK.out _ ?_ _ ?_ ?_; rotate_left 2
        · (try simp only [r0, r2, r3]); rfl
        exact ⟨by have hX := hN.addI 2 h4 o4 (Nat.le_refl _); (try simp only [List.set_cons_zero, List.set_cons_succ] at hX); simpa only [updB, updV, blkOf_mk, tup0_mk, partsOf3, Nat.reduceBEq, cond_true, cond_false, hb, d0, d2, d3, n5, r0, r2, r3] using hX, v0, v1, v2, v3, fun _ => ⟨_, _, _, rfl⟩, fun h => absurd (show b 5 = true from h) (by rw [n5]; exact Bool.false_ne_true)⟩
      refine AllSteps.cons (j := 6) rfl (fun b t wx hJ hb hd hcl Kc hK => ?_) ?_
      · obtain ⟨hH, v0, v1, v2, v3, v4, v5⟩ := hJ
        have d0 : b 0 = true := hd.out 0 (by kernel_rfl)
        have d1 : b 1 = true := hd.out 1 (by kernel_rfl)
        have d2 : b 2 = true := hd.out 2 (by kernel_rfl)
        have d3 : b 3 = true := hd.out 3 (by kernel_rfl)
        have d4 : b 4 = true := hd.out 4 (by kernel_rfl)
        have r0 := v0 d0
        have r1 := v1 d1
        have r2 := v2 d2
        have r3 := v3 d3
        have r4 := v4 d4
        obtain ⟨x_2, c_2, r2⟩ := r2
        obtain ⟨x_4, n'_4, c_4, r4⟩ := r4
        go_simp
        refine hK.out _ ?_ _ ?_ ?_; rotate_left 2
        · (try simp only [r0, r1, r2, r3, r4]); rfl
        exact ⟨hH, v0, v1, v2, v3, v4, fun _ => (by first | rfl | exact r4.symm)⟩
      exact AllSteps.nil
  case hEa =>
    intro b t wa hJ hall
    obtain ⟨hHa, v0, v1, v2, v3, v4, v5⟩ := hJ
    have a0 : b 0 = true := hall 0 (by decide)
    have a1 : b 1 = true := hall 1 (by decide)
    have a2 : b 2 = true := hall 2 (by decide)
    have a3 : b 3 = true := hall 3 (by decide)
    have a4 : b 4 = true := hall 4 (by decide)
    have a5 : b 5 = true := hall 5 (by decide)
    (try simp only [a0, a1, a2, a3, a4, a5, cond_true] at hHa)
    replace v0 := v0 a0
    replace v1 := v1 a1
    replace v2 := v2 a2
    replace v3 := v3 a3
    replace v4 := v4 a4
    replace v5 := v5 a5
    clear hall a0 a1 a2 a3 a4 a5
    generalize t 5 = x5 at hHa v5 ⊢
    generalize t 4 = x4 at hHa v4 v5 ⊢
    generalize t 3 = x3 at hHa v3 ⊢
    generalize t 2 = x2 at hHa v2 ⊢
    generalize t 1 = x1 at hHa v1 ⊢
    generalize t 0 = x0 at hHa v0 ⊢
    subst v0
    subst v1
    obtain ⟨xa2, ca2, rfl⟩ := v2
    subst v3
    obtain ⟨xa4, n'a4, ca4, rfl⟩ := v4
    subst v5
    clear b
    replace hH := hHa; clear hHa
    replace hH : Held w wa [aB (w.heap.size) 29 [.int .i64 k, .int .i64 p, .int .i64 n, .slice aV m cV, .slice aO op.length cO], aI (.slice xa2 AL.length ca2) AL, aI (.slice xa4 n'a4 ca4) RF] := hH
    have HO := Lib.hid (hH.own (k := 2) rfl); have HE := Lib.hid hH.ext; clear hH
    go_wp2
    go_ret
    exact ⟨_, rfl, HO.out, HE.out⟩
end Go.Proofs.Ytpegckmagiaggaa
